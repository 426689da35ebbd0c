/- Made by merge.py of XMPnt, XMZone. -/
import Derived.Test.YtdhobglhjdgboaaDoorRPnt
import Derived.Test.YtdhobglhjdgboaaDoorRZone
import Derived.Test.YtdhobglhjdgboaaDoorNest3
import Derived.Test.YtdhobglhjdgboaaDoorMarkText
import Derived.Deep.RegionHeld3
/- XMPnt: markPntS and heldPntS: what they write, and that what was written is found again. -/
namespace Go.Proofs.YtdhobglhjdgboaaDoor
open Go.RowKit
set_option linter.unusedVariables false

/-- the record that markPntS writes at number q -/
def markPnt (q : Int) : Pnt := ⟨(q), (q + 1)⟩
def marksPnt (q : Int) (n : Nat) : List Pnt := (List.range n).map fun i => markPnt (q + 2 * (i : Nat))
theorem marksPnt_len (q : Int) (n : Nat) : (marksPnt q n).length = n := by simp [marksPnt]
theorem marksPnt_at {q : Int} {n i : Nat} (h : i < n) : (marksPnt q n)[i]? = some (markPnt (q + 2 * (i : Nat))) := by simp [marksPnt, h]
theorem marksPnt_eq {q : Int} {n i : Nat} {p : Pnt} (h : (marksPnt q n)[i]? = some p) : p = markPnt (q + 2 * (i : Nat)) := by
  have hl := (List.getElem?_eq_some_iff.1 h).1
  rw [marksPnt_len] at hl
  rw [marksPnt_at hl] at h; exact (Option.some.inj h).symm

set_option maxHeartbeats 1600000 in
theorem markPntS_any (A : Option Addr) (n c : Nat) (ps : List Pnt) (q : Int) (w : World) (lo hi : Nat) (h : Own Pnt.cs 2 w lo hi 41 A n ps) (hn : n ≤ 4194304) (hq : 0 ≤ q) (hq2 : q ≤ 1073741824) :
    Calls Tryd.prog 91 #[.slice A n c, .int .i64 q] w fun e w' => e = .returned (.int .i64 (q + 2 * (n : Nat))) ∧ Within lo hi w w' ∧ Own Pnt.cs 2 w' lo hi 41 A n (marksPnt q n) := by
  by_cases hn0 : n = 0
  · subst hn0
    go_enter Tryd.func91, Tryd.ntmps91
    go_wp2
    refine wp_loop_rounds 1 ?_
    rw [rounds_succ]
    go_wp2
    go_ret
    exact ⟨ret_int (by omega), Within.refl _ _ _, Own.nil _⟩
  · obtain ⟨g, cs0, rfl, hg1, hg2, hb0, hs0, _⟩ := h.2 (by omega)
    go_enter Tryd.func91, Tryd.ntmps91
    go_wp2
    go_loopw [1, 5] (fun m i wr => ∃ (k : Nat) (cs : Array Value), k ≤ n ∧ i = .int .i64 k ∧ m = .int .i64 (q + 2 * (k : Nat)) ∧ Blk wr g 41 cs ∧ n * 2 ≤ cs.size ∧ Filled Pnt.cs 2 cs (marksPnt q n) k ∧ Within lo hi w wr) (fun _ i _ => n - (intOf i).toNat)
    case atStart => exact ⟨0, cs0, Nat.zero_le _, rfl, by simp, hb0, hs0, Filled.start _ _, Within.refl _ _ _⟩
    case round =>
      obtain ⟨k, cs, hk, rfl, rfl, hblk, hsz, hfill, hw⟩ := hrel
      have HZ := Lib.hid hsz
      clear hsz
      by_cases hlt : k < n
      · have hm : (marksPnt q n)[k]? = some (markPnt (q + 2 * (k : Nat))) := marksPnt_at hlt
        have HM := Lib.hid hm
        clear hm
        obtain ⟨Q, hQ⟩ : ∃ Q : Int, Q = q + 2 * (k : Nat) := ⟨_, rfl⟩
        have HQ := Lib.hid hQ
        have hQ0 : 0 ≤ Q := by omega
        have hQ1 : Q ≤ 2147483648 := by omega
        rw [← hQ] at HM ⊢
        clear hQ
        have hg := hblk.lt
        obtain ⟨u0, e0⟩ : ∃ u, wr.cell? ⟨g, k * 2, none⟩ = some u := hblk.there (by have := HZ.out; omega)
        obtain ⟨u1, e1⟩ : ∃ u, wr.cell? ⟨g, k * 2 + 1, none⟩ = some u := hblk.there (by have := HZ.out; omega)
        have f0 := hblk.frozen (k * 2)
        have f1 := hblk.frozen (k * 2 + 1)
        have HB := Lib.hid hblk
        clear hblk
        go_wp2
        go_roundw
        case rel => exact ⟨k + 1, _, by omega, by go_num, by rw [HQ.out]; go_num, (HB.out.set_ (k * 2) (.int .i64 (Q))).set_ (k * 2 + 1) (.int .i64 (Q + 1)), by have := HZ.out; simpa using this, hfill.put2 HM.out (by have := HZ.out; omega), ((hw).setCell hg1 hg2 _).setCell hg1 hg2 _⟩
        case measure => simp [intOf]; omega
      · obtain rfl : k = n := by omega
        go_wp2
        go_ret
        exact ⟨rfl, hw, marksPnt_len _ _, fun _ => ⟨g, cs, rfl, hg1, hg2, hblk, HZ.out, fun i x hx j hj => hfill i x (by have := (List.getElem?_eq_some_iff.1 hx).1; rw [marksPnt_len] at this; exact this) hx j hj⟩⟩

end Go.Proofs.YtdhobglhjdgboaaDoor
/- XMZone: markZoneS and heldZoneS: what they write, and that what was written is found again. -/
namespace Go.Proofs.YtdhobglhjdgboaaDoor
open Go.RowKit
set_option linter.unusedVariables false

/-- the record that markZoneS makes of p at number q -/
def Zone.mk_ (q : Int) (p : Zone) : Zone := ⟨⟨(q), (q + 1), (q + 1 + 1)⟩, ⟨p.r.a, p.r.n, p.r.cap, marksPnt (q + 1 + 1 + 1) p.r.n⟩⟩
def Zone.wide (p : Zone) : Nat := 3 + 2 * p.r.xs.length
def markZones (q : Int) (ps : List Zone) (i : Nat) (p : Zone) : Zone := p.mk_ (q + (tot Zone.wide (ps.take i) : Nat))
theorem tot_wideZone {ps ps2 : List Zone} (h : ps.map Zone.val = ps2.map Zone.val) : tot Zone.wide ps = tot Zone.wide ps2 := by
  have e : ∀ qs : List Zone, qs.map Zone.wide = (qs.map Zone.val).map (fun v => 3 + 2 * v.2.length) := by intro qs; rw [List.map_map]; rfl
  unfold tot; rw [e, e, h]
theorem tot_wideZone_le {ps : List Zone} (h : ∀ p ∈ ps, p.r.xs.length = p.r.n) : tot Zone.wide ps ≤ 3 * ps.length + 2 * tot Zone.sz ps := by
  induction ps with
  | nil => simp [tot]
  | cons p ps ih =>
    have h1 := ih (fun q hq => h q (List.mem_cons_of_mem _ hq))
    have h2 := h p List.mem_cons_self
    simp only [tot, List.map_cons, List.sum_cons, List.length_cons] at *
    unfold Zone.wide Zone.sz at *
    omega
theorem arr3_old (cs : Array Value) (t i : Nat) (u0 u1 u2 : Value) (hi : i < t ∨ t + 3 ≤ i) : ((((cs.setIfInBounds (t) u0).setIfInBounds (t + 1) u1).setIfInBounds (t + 2) u2))[i]? = cs[i]? := by
  rw [Array.getElem?_setIfInBounds_ne (by omega), Array.getElem?_setIfInBounds_ne (by omega), Array.getElem?_setIfInBounds_ne (by omega)]
theorem arr3_0 (cs : Array Value) (t : Nat) (u0 u1 u2 : Value) (ht : t + 3 ≤ cs.size) : ((((cs.setIfInBounds (t) u0).setIfInBounds (t + 1) u1).setIfInBounds (t + 2) u2))[t]? = some u0 := by
  rw [Array.getElem?_setIfInBounds_ne (by omega), Array.getElem?_setIfInBounds_ne (by omega), Array.getElem?_setIfInBounds_self_of_lt (by first | omega | (simp; omega))]
theorem arr3_1 (cs : Array Value) (t : Nat) (u0 u1 u2 : Value) (ht : t + 3 ≤ cs.size) : ((((cs.setIfInBounds (t) u0).setIfInBounds (t + 1) u1).setIfInBounds (t + 2) u2))[t + 1]? = some u1 := by
  rw [Array.getElem?_setIfInBounds_ne (by omega), Array.getElem?_setIfInBounds_self_of_lt (by first | omega | (simp; omega))]
theorem arr3_2 (cs : Array Value) (t : Nat) (u0 u1 u2 : Value) (ht : t + 3 ≤ cs.size) : ((((cs.setIfInBounds (t) u0).setIfInBounds (t + 1) u1).setIfInBounds (t + 2) u2))[t + 2]? = some u2 := by
  rw [Array.getElem?_setIfInBounds_self_of_lt (by first | omega | (simp; omega))]

def MarkZoneS (w : World) (lo hi : Nat) (A : Option Addr) (n : Nat) (ps : List Zone) (q : Int) (e : Ending) (w' : World) : Prop :=
  e = .returned (.int .i64 (q + (tot Zone.wide ps : Nat))) ∧ Within lo hi w w' ∧ ZonesOwn w' lo hi A n (upTo (markZones q ps) ps n)
set_option maxRecDepth 100000 in
set_option maxHeartbeats 3200000 in
theorem markZoneS_any (A : Option Addr) (n c : Nat) (ps : List Zone) (q : Int) (w : World) (lo hi : Nat) (h : ZonesOwn w lo hi A n ps) (hn : n ≤ 1048576) (hrn : ∀ p ∈ ps, p.r.n ≤ 1048576) (hq : 0 ≤ q) (hq2 : q + (tot Zone.wide ps : Nat) ≤ 1073741824) :
    Calls Tryd.prog 25 #[.slice A n c, .int .i64 q] w (MarkZoneS w lo hi A n ps q) := by
  obtain ⟨mid, f, hlm, hmh, ho, ht⟩ := h
  have hlen := ho.1
  by_cases hn0 : n = 0
  · subst hn0
    have hnil : ps = [] := List.length_eq_zero_iff.1 hlen
    subst hnil
    go_enter Tryd.func25, Tryd.ntmps25
    go_wp2
    refine wp_loop_rounds 1 ?_
    rw [rounds_succ]
    go_wp2
    go_ret
    exact ⟨ret_int (by simp [tot]), Within.refl _ _ _, mid, f, hlm, hmh, by first | exact ho | simpa [upTo] using ho, by first | exact ht | simpa [upTo] using ht⟩
  · obtain ⟨g, cs0, rfl, hg1, hg2, hb0, hs0, _⟩ := ho.2 (by omega)
    have HLen := Lib.hid hlen
    clear hlen
    go_enter Tryd.func25, Tryd.ntmps25
    go_wp2
    go_loopw [1, 5] (fun m i wr => ∃ (k : Nat) (cs : Array Value), k ≤ n ∧ i = .int .i64 k ∧ m = .int .i64 (q + (tot Zone.wide (ps.take k) : Nat)) ∧ Blk wr g 127 cs ∧ n * 4 ≤ cs.size ∧ Own Zone.cs 4 wr lo mid 127 (some ⟨g, 0, none⟩) n (upTo (markZones q ps) ps k) ∧ Tiles Pnt.cs 2 41 Zone.r wr mid hi (upTo (markZones q ps) ps k) f ∧ Within lo hi w wr) (fun _ i _ => n - (intOf i).toNat)
    case atStart => exact ⟨0, cs0, Nat.zero_le _, rfl, by simp [tot], hb0, hs0, by rw [upTo_zero]; exact ho, by rw [upTo_zero]; exact ht, Within.refl _ _ _⟩
    case round =>
      obtain ⟨k, cs, hk, rfl, rfl, hblk, hsz, ho1, ht1, hw⟩ := hrel
      clear ho ht
      have HZ := Lib.hid hsz
      clear hsz
      by_cases hlt : k < n
      · obtain ⟨p, hp⟩ : ∃ p, ps[k]? = some p := ⟨_, List.getElem?_eq_getElem (by rw [HLen.out]; exact hlt)⟩
        have HP := Lib.hid hp
        have hpn := hrn p (List.mem_of_getElem? hp)
        have hup := upTo_at (t := markZones q ps) hp
        have HU := Lib.hid hup
        have HT := Lib.hid (tot_snoc Zone.wide ps k p hp)
        have hT2 : tot Zone.wide (ps.take (k + 1)) ≤ tot Zone.wide ps := tot_le _ _ _
        have hrow := ht1.own k p hup
        have hrl := hrow.1
        have hpw : p.wide = 3 + 2 * p.r.n := by unfold Zone.wide; rw [hrl]
        have HRL := Lib.hid hrl
        have HPW := Lib.hid hpw
        have hbd : q + (tot Zone.wide (ps.take k) : Nat) + 3 + 2 * p.r.n ≤ 1073741824 := by have := HT.out; omega
        have hmk : markZones q ps k p = p.mk_ (q + (tot Zone.wide (ps.take k) : Nat)) := rfl
        have HMK := Lib.hid hmk
        obtain ⟨Q, hQ⟩ : ∃ Q : Int, Q = q + (tot Zone.wide (ps.take k) : Nat) := ⟨_, rfl⟩
        have HQ := Lib.hid hQ
        have hQ0 : 0 ≤ Q := by omega
        rw [← hQ] at hbd HMK ⊢
        clear hQ hmk hrl hpw hT2 hup hp
        have hfl : mid ≤ f k := ht1.upto k (by rw [upTo_len, HLen.out]; omega)
        have hfh : f (k + 1) ≤ hi := Nat.le_trans (ht1.le (a := k + 1) (b := (upTo (markZones q ps) ps k).length) (by rw [upTo_len, HLen.out]; omega) (Nat.le_refl _)) ht1.hi_
        have hgw := hblk.lt
        obtain ⟨u0, e0⟩ : ∃ u, wr.cell? ⟨g, k * 4, none⟩ = some u := hblk.there (by have := HZ.out; omega)
        obtain ⟨u1, e1⟩ : ∃ u, wr.cell? ⟨g, k * 4 + 1, none⟩ = some u := hblk.there (by have := HZ.out; omega)
        obtain ⟨u2, e2⟩ : ∃ u, wr.cell? ⟨g, k * 4 + 2, none⟩ = some u := hblk.there (by have := HZ.out; omega)
        have e3 : wr.cell? ⟨g, k * 4 + 3, none⟩ = some (.slice p.r.a p.r.n p.r.cap) := by
          have hoa := ho1.arr (c := Zone.cs) Zone.cs_len
          obtain ⟨b9, off9, x9, h91, h92, _, _, h93⟩ := hoa.cells hlt
          cases h91
          rw [HU.out] at h92; cases h92
          have := h93 3 _ rfl; rwa [Nat.zero_add] at this
        have f0 := hblk.frozen (k * 4)
        have f1 := hblk.frozen (k * 4 + 1)
        have f2 := hblk.frozen (k * 4 + 2)
        have f3 := hblk.frozen (k * 4 + 3)
        have HB := Lib.hid hblk
        clear hblk
        have hk1 : (k : Int) < (n : Int) := by omega
        go_wp2_with fail
        have B1 := HB.out
        have o1 := ho1
        have t1 := ht1
        have W1 := hw
        have hs1 : wr.heap.size ≤ wr.heap.size := Nat.le_refl _
        clear HB ho1 ht1 hw
        have B2 := (((B1.set_ (k * 4) (.int .i64 (Q))).set_ (k * 4 + 1) (.int .i64 (Q + 1))).set_ (k * 4 + 2) (.int .i64 (Q + 1 + 1)))
        have W2 := ((((Within.refl lo mid wr).setCell (p := ⟨g, k * 4, none⟩) hg1 hg2 (.int .i64 (Q))).setCell (p := ⟨g, k * 4 + 1, none⟩) hg1 hg2 (.int .i64 (Q + 1))).setCell (p := ⟨g, k * 4 + 2, none⟩) hg1 hg2 (.int .i64 (Q + 1 + 1)))
        generalize (((wr.setCell ⟨g, k * 4, none⟩ (.int .i64 (Q))).setCell ⟨g, k * 4 + 1, none⟩ (.int .i64 (Q + 1))).setCell ⟨g, k * 4 + 2, none⟩ (.int .i64 (Q + 1 + 1))) = wx at B2 W2 ⊢
        have row2 := (t1.own k p HU.out).within W2 (.inr hfl)
        have t2 := t1.within W2 (.inr (Nat.le_refl _))
        have o2 := o1.turn (y := p.mk_ Q) HU.out B1 B2 (by simp) (fun t ht => arr3_old _ _ _ _ _ _ (by omega)) (fun j hj => by
          have hz := HZ.out
          have : j = 0 ∨ j = 1 ∨ j = 2 ∨ j = 3 := by omega
          rcases this with rfl | rfl | rfl | rfl
          · left; exact arr3_0 _ _ _ _ _ (by omega)
          · left; exact arr3_1 _ _ _ _ _ (by omega)
          · left; exact arr3_2 _ _ _ _ _ (by omega)
          · right; exact ⟨arr3_old _ _ _ _ _ _ (by omega), rfl⟩)
        have hs2 := W2.size
        clear o1 t1 e0 e1 e2 e3 f0 f1 f2 f3 B1
        refine (markPntS_any _ _ _ _ _ _ (f k) (f (k + 1)) row2 (by omega) (by omega) (by omega)).mono ?_
        rintro _ w3 ⟨rfl, hw3, o3⟩
        have t3 := t2.turn (p' := p.mk_ Q) HU.out hw3 (by first | exact o3 | (have := o3; simpa [Zone.mk_] using this))
        have o4 := o2.within hw3 (.inl hfl)
        have B3 := (hw3.block g (by have := B2.lt; omega) (by omega)).trans B2
        rw [← HMK.out] at t3 o4
        rw [upTo_set HP.out] at t3 o4
        have W3 := (W1.trans (W2.mono (Nat.le_refl _) hmh)).trans (hw3.mono (by omega) hfh)
        clear t2 o2 B2 W1 W2 hw3 o3 row2
        have HO4 := Lib.hid o4
        have HT3 := Lib.hid t3
        have HB3 := Lib.hid B3
        clear o4 t3 B3
        go_wp2
        go_roundw
        case rel => exact ⟨k + 1, _, by omega, by go_num, by rw [HT.out, HPW.out]; have h9 := HQ.out; first | go_num | (congr 1; push_cast; omega), HB3.out, by have := HZ.out; simpa using this, HO4.out, HT3.out, W3⟩
        case measure => simp [intOf]; omega
      · obtain rfl : k = n := by omega
        go_wp2
        go_ret
        exact ⟨by rw [List.take_of_length_le (by rw [HLen.out]; exact Nat.le_refl _)]; rfl, hw, mid, f, hlm, hmh, ho1, ht1⟩
end Go.Proofs.YtdhobglhjdgboaaDoor
