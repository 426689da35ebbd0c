/- markLiftS and heldLiftS: what they write, and that what was written is found again. -/
import Derived.Test.YtbklbhbjlbojdaaRLift
import Derived.Test.YtbklbhbjlbojdaaNest3
import Derived.Test.YtbklbhbjlbojdaaMarkText
import Derived.Deep.RegionHeld3
namespace Go.Proofs.Ytbklbhbjlbojdaa
open Go.RowKit
set_option linter.unusedVariables false

/-- the record that markLiftS makes of p at number q -/
def Lift.mk_ (q : Int) (p : Lift) : Lift := ⟨⟨(mText (q)), (q + 1), (q + 1 + 1), (q + 1 + 1 + 1), (q + 1 + 1 + 1 + 1), (q + 1 + 1 + 1 + 1 + 1), (q + 1 + 1 + 1 + 1 + 1 + 1), (q + 1 + 1 + 1 + 1 + 1 + 1 + 1)⟩, ⟨p.r.a, p.r.n, p.r.cap, marksInt (q + 1 + 1 + 1 + 1 + 1 + 1 + 1 + 1) p.r.n⟩⟩
def Lift.wide (p : Lift) : Nat := 8 + p.r.xs.length
def markLifts (q : Int) (ps : List Lift) (i : Nat) (p : Lift) : Lift := p.mk_ (q + (tot Lift.wide (ps.take i) : Nat))
theorem tot_wide {ps ps2 : List Lift} (h : ps.map Lift.val = ps2.map Lift.val) : tot Lift.wide ps = tot Lift.wide ps2 := by
  have e : ∀ qs : List Lift, qs.map Lift.wide = (qs.map Lift.val).map (fun v => 8 + v.2.length) := by intro qs; rw [List.map_map]; rfl
  unfold tot; rw [e, e, h]
theorem tot_wide_le {ps : List Lift} (h : ∀ p ∈ ps, p.r.xs.length = p.r.n) : tot Lift.wide ps ≤ 8 * ps.length + tot Lift.sz ps := by
  induction ps with
  | nil => simp [tot]
  | cons p ps ih =>
    have h1 := ih (fun q hq => h q (List.mem_cons_of_mem _ hq))
    have h2 := h p List.mem_cons_self
    simp only [tot, List.map_cons, List.sum_cons, List.length_cons] at *
    unfold Lift.wide Lift.sz at *
    omega
theorem arr8_old (cs : Array Value) (t i : Nat) (u0 u1 u2 u3 u4 u5 u6 u7 : Value) (hi : i < t ∨ t + 8 ≤ i) : (((((((((cs.setIfInBounds (t) u0).setIfInBounds (t + 1) u1).setIfInBounds (t + 2) u2).setIfInBounds (t + 3) u3).setIfInBounds (t + 4) u4).setIfInBounds (t + 5) u5).setIfInBounds (t + 6) u6).setIfInBounds (t + 7) u7))[i]? = cs[i]? := by
  rw [Array.getElem?_setIfInBounds_ne (by omega), Array.getElem?_setIfInBounds_ne (by omega), Array.getElem?_setIfInBounds_ne (by omega), Array.getElem?_setIfInBounds_ne (by omega), Array.getElem?_setIfInBounds_ne (by omega), Array.getElem?_setIfInBounds_ne (by omega), Array.getElem?_setIfInBounds_ne (by omega), Array.getElem?_setIfInBounds_ne (by omega)]
theorem arr8_0 (cs : Array Value) (t : Nat) (u0 u1 u2 u3 u4 u5 u6 u7 : Value) (ht : t + 8 ≤ cs.size) : (((((((((cs.setIfInBounds (t) u0).setIfInBounds (t + 1) u1).setIfInBounds (t + 2) u2).setIfInBounds (t + 3) u3).setIfInBounds (t + 4) u4).setIfInBounds (t + 5) u5).setIfInBounds (t + 6) u6).setIfInBounds (t + 7) u7))[t]? = some u0 := by
  rw [Array.getElem?_setIfInBounds_ne (by omega), Array.getElem?_setIfInBounds_ne (by omega), Array.getElem?_setIfInBounds_ne (by omega), Array.getElem?_setIfInBounds_ne (by omega), Array.getElem?_setIfInBounds_ne (by omega), Array.getElem?_setIfInBounds_ne (by omega), Array.getElem?_setIfInBounds_ne (by omega), Array.getElem?_setIfInBounds_self_of_lt (by first | omega | (simp; omega))]
theorem arr8_1 (cs : Array Value) (t : Nat) (u0 u1 u2 u3 u4 u5 u6 u7 : Value) (ht : t + 8 ≤ cs.size) : (((((((((cs.setIfInBounds (t) u0).setIfInBounds (t + 1) u1).setIfInBounds (t + 2) u2).setIfInBounds (t + 3) u3).setIfInBounds (t + 4) u4).setIfInBounds (t + 5) u5).setIfInBounds (t + 6) u6).setIfInBounds (t + 7) u7))[t + 1]? = some u1 := by
  rw [Array.getElem?_setIfInBounds_ne (by omega), Array.getElem?_setIfInBounds_ne (by omega), Array.getElem?_setIfInBounds_ne (by omega), Array.getElem?_setIfInBounds_ne (by omega), Array.getElem?_setIfInBounds_ne (by omega), Array.getElem?_setIfInBounds_ne (by omega), Array.getElem?_setIfInBounds_self_of_lt (by first | omega | (simp; omega))]
theorem arr8_2 (cs : Array Value) (t : Nat) (u0 u1 u2 u3 u4 u5 u6 u7 : Value) (ht : t + 8 ≤ cs.size) : (((((((((cs.setIfInBounds (t) u0).setIfInBounds (t + 1) u1).setIfInBounds (t + 2) u2).setIfInBounds (t + 3) u3).setIfInBounds (t + 4) u4).setIfInBounds (t + 5) u5).setIfInBounds (t + 6) u6).setIfInBounds (t + 7) u7))[t + 2]? = some u2 := by
  rw [Array.getElem?_setIfInBounds_ne (by omega), Array.getElem?_setIfInBounds_ne (by omega), Array.getElem?_setIfInBounds_ne (by omega), Array.getElem?_setIfInBounds_ne (by omega), Array.getElem?_setIfInBounds_ne (by omega), Array.getElem?_setIfInBounds_self_of_lt (by first | omega | (simp; omega))]
theorem arr8_3 (cs : Array Value) (t : Nat) (u0 u1 u2 u3 u4 u5 u6 u7 : Value) (ht : t + 8 ≤ cs.size) : (((((((((cs.setIfInBounds (t) u0).setIfInBounds (t + 1) u1).setIfInBounds (t + 2) u2).setIfInBounds (t + 3) u3).setIfInBounds (t + 4) u4).setIfInBounds (t + 5) u5).setIfInBounds (t + 6) u6).setIfInBounds (t + 7) u7))[t + 3]? = some u3 := by
  rw [Array.getElem?_setIfInBounds_ne (by omega), Array.getElem?_setIfInBounds_ne (by omega), Array.getElem?_setIfInBounds_ne (by omega), Array.getElem?_setIfInBounds_ne (by omega), Array.getElem?_setIfInBounds_self_of_lt (by first | omega | (simp; omega))]
theorem arr8_4 (cs : Array Value) (t : Nat) (u0 u1 u2 u3 u4 u5 u6 u7 : Value) (ht : t + 8 ≤ cs.size) : (((((((((cs.setIfInBounds (t) u0).setIfInBounds (t + 1) u1).setIfInBounds (t + 2) u2).setIfInBounds (t + 3) u3).setIfInBounds (t + 4) u4).setIfInBounds (t + 5) u5).setIfInBounds (t + 6) u6).setIfInBounds (t + 7) u7))[t + 4]? = some u4 := by
  rw [Array.getElem?_setIfInBounds_ne (by omega), Array.getElem?_setIfInBounds_ne (by omega), Array.getElem?_setIfInBounds_ne (by omega), Array.getElem?_setIfInBounds_self_of_lt (by first | omega | (simp; omega))]
theorem arr8_5 (cs : Array Value) (t : Nat) (u0 u1 u2 u3 u4 u5 u6 u7 : Value) (ht : t + 8 ≤ cs.size) : (((((((((cs.setIfInBounds (t) u0).setIfInBounds (t + 1) u1).setIfInBounds (t + 2) u2).setIfInBounds (t + 3) u3).setIfInBounds (t + 4) u4).setIfInBounds (t + 5) u5).setIfInBounds (t + 6) u6).setIfInBounds (t + 7) u7))[t + 5]? = some u5 := by
  rw [Array.getElem?_setIfInBounds_ne (by omega), Array.getElem?_setIfInBounds_ne (by omega), Array.getElem?_setIfInBounds_self_of_lt (by first | omega | (simp; omega))]
theorem arr8_6 (cs : Array Value) (t : Nat) (u0 u1 u2 u3 u4 u5 u6 u7 : Value) (ht : t + 8 ≤ cs.size) : (((((((((cs.setIfInBounds (t) u0).setIfInBounds (t + 1) u1).setIfInBounds (t + 2) u2).setIfInBounds (t + 3) u3).setIfInBounds (t + 4) u4).setIfInBounds (t + 5) u5).setIfInBounds (t + 6) u6).setIfInBounds (t + 7) u7))[t + 6]? = some u6 := by
  rw [Array.getElem?_setIfInBounds_ne (by omega), Array.getElem?_setIfInBounds_self_of_lt (by first | omega | (simp; omega))]
theorem arr8_7 (cs : Array Value) (t : Nat) (u0 u1 u2 u3 u4 u5 u6 u7 : Value) (ht : t + 8 ≤ cs.size) : (((((((((cs.setIfInBounds (t) u0).setIfInBounds (t + 1) u1).setIfInBounds (t + 2) u2).setIfInBounds (t + 3) u3).setIfInBounds (t + 4) u4).setIfInBounds (t + 5) u5).setIfInBounds (t + 6) u6).setIfInBounds (t + 7) u7))[t + 7]? = some u7 := by
  rw [Array.getElem?_setIfInBounds_self_of_lt (by first | omega | (simp; omega))]

def MarkLiftS (w : World) (lo hi : Nat) (A : Option Addr) (n : Nat) (ps : List Lift) (q : Int) (e : Ending) (w' : World) : Prop :=
  e = .returned (.int .i64 (q + (tot Lift.wide ps : Nat))) ∧ Within lo hi w w' ∧ LiftsOwn w' lo hi A n (upTo (markLifts q ps) ps n)
set_option maxRecDepth 100000 in
set_option maxHeartbeats 3200000 in
theorem markLiftS_any (A : Option Addr) (n c : Nat) (ps : List Lift) (q : Int) (w : World) (lo hi : Nat) (h : LiftsOwn w lo hi A n ps) (hn : n ≤ 1048576) (hrn : ∀ p ∈ ps, p.r.n ≤ 1048576) (hq : 0 ≤ q) (hq2 : q + (tot Lift.wide ps : Nat) ≤ 1073741824) :
    Calls Try.prog 22 #[.slice A n c, .int .i64 q] w (MarkLiftS w lo hi A n ps q) := by
  obtain ⟨mid, f, hlm, hmh, ho, ht⟩ := h
  have hlen := ho.1
  by_cases hn0 : n = 0
  · subst hn0
    have hnil : ps = [] := List.length_eq_zero_iff.1 hlen
    subst hnil
    go_enter Try.func22, Try.ntmps22
    go_wp2
    refine wp_loop_rounds 1 ?_
    rw [rounds_succ]
    go_wp2
    go_ret
    exact ⟨ret_int (by simp [tot]), Within.refl _ _ _, mid, f, hlm, hmh, by first | exact ho | simpa [upTo] using ho, by first | exact ht | simpa [upTo] using ht⟩
  · obtain ⟨g, cs0, rfl, hg1, hg2, hb0, hs0, _⟩ := ho.2 (by omega)
    have HLen := Lib.hid hlen
    clear hlen
    go_enter Try.func22, Try.ntmps22
    go_wp2
    go_loopw [1, 5] (fun m i wr => ∃ (k : Nat) (cs : Array Value), k ≤ n ∧ i = .int .i64 k ∧ m = .int .i64 (q + (tot Lift.wide (ps.take k) : Nat)) ∧ Blk wr g 36 cs ∧ n * 9 ≤ cs.size ∧ Own Lift.cs 9 wr lo mid 36 (some ⟨g, 0, none⟩) n (upTo (markLifts q ps) ps k) ∧ Tiles ic 1 2 Lift.r wr mid hi (upTo (markLifts q ps) ps k) f ∧ Within lo hi w wr) (fun _ i _ => n - (intOf i).toNat)
    case atStart => exact ⟨0, cs0, Nat.zero_le _, rfl, by simp [tot], hb0, hs0, by rw [upTo_zero]; exact ho, by rw [upTo_zero]; exact ht, Within.refl _ _ _⟩
    case round =>
      obtain ⟨k, cs, hk, rfl, rfl, hblk, hsz, ho1, ht1, hw⟩ := hrel
      clear ho ht
      have HZ := Lib.hid hsz
      clear hsz
      by_cases hlt : k < n
      · obtain ⟨p, hp⟩ : ∃ p, ps[k]? = some p := ⟨_, List.getElem?_eq_getElem (by rw [HLen.out]; exact hlt)⟩
        have HP := Lib.hid hp
        have hpn := hrn p (List.mem_of_getElem? hp)
        have hup := upTo_at (t := markLifts q ps) hp
        have HU := Lib.hid hup
        have HT := Lib.hid (tot_snoc Lift.wide ps k p hp)
        have hT2 : tot Lift.wide (ps.take (k + 1)) ≤ tot Lift.wide ps := tot_le _ _ _
        have hrow := ht1.own k p hup
        have hrl := hrow.1
        have hpw : p.wide = 8 + p.r.n := by unfold Lift.wide; rw [hrl]
        have HRL := Lib.hid hrl
        have HPW := Lib.hid hpw
        have hbd : q + (tot Lift.wide (ps.take k) : Nat) + 8 + p.r.n ≤ 1073741824 := by have := HT.out; omega
        have hmk : markLifts q ps k p = p.mk_ (q + (tot Lift.wide (ps.take k) : Nat)) := rfl
        have HMK := Lib.hid hmk
        obtain ⟨Q, hQ⟩ : ∃ Q : Int, Q = q + (tot Lift.wide (ps.take k) : Nat) := ⟨_, rfl⟩
        have HQ := Lib.hid hQ
        have hQ0 : 0 ≤ Q := by omega
        rw [← hQ] at hbd HMK ⊢
        clear hQ hmk hrl hpw hT2 hup hp
        have hfl : mid ≤ f k := ht1.upto k (by rw [upTo_len, HLen.out]; omega)
        have hfh : f (k + 1) ≤ hi := Nat.le_trans (ht1.le (a := k + 1) (b := (upTo (markLifts q ps) ps k).length) (by rw [upTo_len, HLen.out]; omega) (Nat.le_refl _)) ht1.hi_
        have hgw := hblk.lt
        obtain ⟨u0, e0⟩ : ∃ u, wr.cell? ⟨g, k * 9, none⟩ = some u := hblk.there (by have := HZ.out; omega)
        obtain ⟨u1, e1⟩ : ∃ u, wr.cell? ⟨g, k * 9 + 1, none⟩ = some u := hblk.there (by have := HZ.out; omega)
        obtain ⟨u2, e2⟩ : ∃ u, wr.cell? ⟨g, k * 9 + 2, none⟩ = some u := hblk.there (by have := HZ.out; omega)
        obtain ⟨u3, e3⟩ : ∃ u, wr.cell? ⟨g, k * 9 + 3, none⟩ = some u := hblk.there (by have := HZ.out; omega)
        obtain ⟨u4, e4⟩ : ∃ u, wr.cell? ⟨g, k * 9 + 4, none⟩ = some u := hblk.there (by have := HZ.out; omega)
        obtain ⟨u5, e5⟩ : ∃ u, wr.cell? ⟨g, k * 9 + 5, none⟩ = some u := hblk.there (by have := HZ.out; omega)
        obtain ⟨u6, e6⟩ : ∃ u, wr.cell? ⟨g, k * 9 + 6, none⟩ = some u := hblk.there (by have := HZ.out; omega)
        obtain ⟨u7, e7⟩ : ∃ u, wr.cell? ⟨g, k * 9 + 7, none⟩ = some u := hblk.there (by have := HZ.out; omega)
        have e8 : wr.cell? ⟨g, k * 9 + 8, none⟩ = some (.slice p.r.a p.r.n p.r.cap) := by
          have hoa := ho1.arr (c := Lift.cs) Lift.cs_len
          obtain ⟨b9, off9, x9, h91, h92, _, _, h93⟩ := hoa.cells hlt
          cases h91
          rw [HU.out] at h92; cases h92
          have := h93 8 _ rfl; rwa [Nat.zero_add] at this
        have f0 := hblk.frozen (k * 9)
        have f1 := hblk.frozen (k * 9 + 1)
        have f2 := hblk.frozen (k * 9 + 2)
        have f3 := hblk.frozen (k * 9 + 3)
        have f4 := hblk.frozen (k * 9 + 4)
        have f5 := hblk.frozen (k * 9 + 5)
        have f6 := hblk.frozen (k * 9 + 6)
        have f7 := hblk.frozen (k * 9 + 7)
        have f8 := hblk.frozen (k * 9 + 8)
        have HB := Lib.hid hblk
        clear hblk
        have hk1 : (k : Int) < (n : Int) := by omega
        go_wp2_with fail
        refine (markText_any _ _ (by omega) (by omega)).mono ?_
        rintro _ w1 ⟨rfl, hb1⟩
        replace e0 := (hb1.cell (p := ⟨g, k * 9, none⟩) hgw).trans e0
        replace e1 := (hb1.cell (p := ⟨g, k * 9 + 1, none⟩) hgw).trans e1
        replace e2 := (hb1.cell (p := ⟨g, k * 9 + 2, none⟩) hgw).trans e2
        replace e3 := (hb1.cell (p := ⟨g, k * 9 + 3, none⟩) hgw).trans e3
        replace e4 := (hb1.cell (p := ⟨g, k * 9 + 4, none⟩) hgw).trans e4
        replace e5 := (hb1.cell (p := ⟨g, k * 9 + 5, none⟩) hgw).trans e5
        replace e6 := (hb1.cell (p := ⟨g, k * 9 + 6, none⟩) hgw).trans e6
        replace e7 := (hb1.cell (p := ⟨g, k * 9 + 7, none⟩) hgw).trans e7
        replace e8 := (hb1.cell (p := ⟨g, k * 9 + 8, none⟩) hgw).trans e8
        replace f0 := (hb1.frozen (p := ⟨g, k * 9, none⟩) hgw).trans f0
        replace f1 := (hb1.frozen (p := ⟨g, k * 9 + 1, none⟩) hgw).trans f1
        replace f2 := (hb1.frozen (p := ⟨g, k * 9 + 2, none⟩) hgw).trans f2
        replace f3 := (hb1.frozen (p := ⟨g, k * 9 + 3, none⟩) hgw).trans f3
        replace f4 := (hb1.frozen (p := ⟨g, k * 9 + 4, none⟩) hgw).trans f4
        replace f5 := (hb1.frozen (p := ⟨g, k * 9 + 5, none⟩) hgw).trans f5
        replace f6 := (hb1.frozen (p := ⟨g, k * 9 + 6, none⟩) hgw).trans f6
        replace f7 := (hb1.frozen (p := ⟨g, k * 9 + 7, none⟩) hgw).trans f7
        replace f8 := (hb1.frozen (p := ⟨g, k * 9 + 8, none⟩) hgw).trans f8
        have B1 := HB.out.bel hb1
        have o1 := ho1.bel hb1
        have t1 := ht1.below hb1
        have W1 := hw.trans (.of_below lo hi hb1)
        have hs1 := hb1.size
        clear HB ho1 ht1 hw hb1
        go_wp2_with fail
        have B2 := ((((((((B1.set_ (k * 9) (.string (mText (Q)))).set_ (k * 9 + 1) (.int .i64 (Q + 1))).set_ (k * 9 + 2) (.int .i64 (Q + 1 + 1))).set_ (k * 9 + 3) (.int .i64 (Q + 1 + 1 + 1))).set_ (k * 9 + 4) (.int .i64 (Q + 1 + 1 + 1 + 1))).set_ (k * 9 + 5) (.int .i64 (Q + 1 + 1 + 1 + 1 + 1))).set_ (k * 9 + 6) (.int .i64 (Q + 1 + 1 + 1 + 1 + 1 + 1))).set_ (k * 9 + 7) (.int .i64 (Q + 1 + 1 + 1 + 1 + 1 + 1 + 1)))
        have W2 := (((((((((Within.refl lo mid w1).setCell (p := ⟨g, k * 9, none⟩) hg1 hg2 (.string (mText (Q)))).setCell (p := ⟨g, k * 9 + 1, none⟩) hg1 hg2 (.int .i64 (Q + 1))).setCell (p := ⟨g, k * 9 + 2, none⟩) hg1 hg2 (.int .i64 (Q + 1 + 1))).setCell (p := ⟨g, k * 9 + 3, none⟩) hg1 hg2 (.int .i64 (Q + 1 + 1 + 1))).setCell (p := ⟨g, k * 9 + 4, none⟩) hg1 hg2 (.int .i64 (Q + 1 + 1 + 1 + 1))).setCell (p := ⟨g, k * 9 + 5, none⟩) hg1 hg2 (.int .i64 (Q + 1 + 1 + 1 + 1 + 1))).setCell (p := ⟨g, k * 9 + 6, none⟩) hg1 hg2 (.int .i64 (Q + 1 + 1 + 1 + 1 + 1 + 1))).setCell (p := ⟨g, k * 9 + 7, none⟩) hg1 hg2 (.int .i64 (Q + 1 + 1 + 1 + 1 + 1 + 1 + 1)))
        generalize ((((((((w1.setCell ⟨g, k * 9, none⟩ (.string (mText (Q)))).setCell ⟨g, k * 9 + 1, none⟩ (.int .i64 (Q + 1))).setCell ⟨g, k * 9 + 2, none⟩ (.int .i64 (Q + 1 + 1))).setCell ⟨g, k * 9 + 3, none⟩ (.int .i64 (Q + 1 + 1 + 1))).setCell ⟨g, k * 9 + 4, none⟩ (.int .i64 (Q + 1 + 1 + 1 + 1))).setCell ⟨g, k * 9 + 5, none⟩ (.int .i64 (Q + 1 + 1 + 1 + 1 + 1))).setCell ⟨g, k * 9 + 6, none⟩ (.int .i64 (Q + 1 + 1 + 1 + 1 + 1 + 1))).setCell ⟨g, k * 9 + 7, none⟩ (.int .i64 (Q + 1 + 1 + 1 + 1 + 1 + 1 + 1))) = wx at B2 W2 ⊢
        have row2 := (t1.own k p HU.out).within W2 (.inr hfl)
        have t2 := t1.within W2 (.inr (Nat.le_refl _))
        have o2 := o1.turn (y := p.mk_ Q) HU.out B1 B2 (by simp) (fun t ht => arr8_old _ _ _ _ _ _ _ _ _ _ _ (by omega)) (fun j hj => by
          have hz := HZ.out
          have : j = 0 ∨ j = 1 ∨ j = 2 ∨ j = 3 ∨ j = 4 ∨ j = 5 ∨ j = 6 ∨ j = 7 ∨ j = 8 := by omega
          rcases this with rfl | rfl | rfl | rfl | rfl | rfl | rfl | rfl | rfl
          · left; exact arr8_0 _ _ _ _ _ _ _ _ _ _ (by omega)
          · left; exact arr8_1 _ _ _ _ _ _ _ _ _ _ (by omega)
          · left; exact arr8_2 _ _ _ _ _ _ _ _ _ _ (by omega)
          · left; exact arr8_3 _ _ _ _ _ _ _ _ _ _ (by omega)
          · left; exact arr8_4 _ _ _ _ _ _ _ _ _ _ (by omega)
          · left; exact arr8_5 _ _ _ _ _ _ _ _ _ _ (by omega)
          · left; exact arr8_6 _ _ _ _ _ _ _ _ _ _ (by omega)
          · left; exact arr8_7 _ _ _ _ _ _ _ _ _ _ (by omega)
          · right; exact ⟨arr8_old _ _ _ _ _ _ _ _ _ _ _ (by omega), rfl⟩)
        have hs2 := W2.size
        clear o1 t1 e0 e1 e2 e3 e4 e5 e6 e7 e8 f0 f1 f2 f3 f4 f5 f6 f7 f8 B1
        refine (markInt64S_any _ _ _ _ _ _ (f k) (f (k + 1)) row2 (by omega) (by omega) (by omega)).mono ?_
        rintro _ w3 ⟨rfl, hw3, o3⟩
        have t3 := t2.turn (p' := p.mk_ Q) HU.out hw3 (by first | exact o3 | (have := o3; simpa [Lift.mk_] using this))
        have o4 := o2.within hw3 (.inl hfl)
        have B3 := (hw3.block g (by have := B2.lt; omega) (by omega)).trans B2
        rw [← HMK.out] at t3 o4
        rw [upTo_set HP.out] at t3 o4
        have W3 := (W1.trans (W2.mono (Nat.le_refl _) hmh)).trans (hw3.mono (by omega) hfh)
        clear t2 o2 B2 W1 W2 hw3 o3 row2
        have HO4 := Lib.hid o4
        have HT3 := Lib.hid t3
        have HB3 := Lib.hid B3
        clear o4 t3 B3
        go_wp2
        go_roundw
        case rel => exact ⟨k + 1, _, by omega, by go_num, by rw [HT.out, HPW.out]; have h9 := HQ.out; first | go_num | (congr 1; push_cast; omega), HB3.out, by have := HZ.out; simpa using this, HO4.out, HT3.out, W3⟩
        case measure => simp [intOf]; omega
      · obtain rfl : k = n := by omega
        go_wp2
        go_ret
        exact ⟨by rw [List.take_of_length_le (by rw [HLen.out]; exact Nat.le_refl _)]; rfl, hw, mid, f, hlm, hmh, ho1, ht1⟩
set_option maxRecDepth 100000 in
set_option maxHeartbeats 3200000 in
theorem heldLiftS_same (A : Option Addr) (n c : Nat) (ps : List Lift) (q : Int) (w : World) (lo : Nat) (h : Lifts w lo w.heap.size A n (upTo (markLifts q ps) ps n)) (hn : n ≤ 1048576) (hlen : ps.length = n) (hrl : ∀ p ∈ ps, p.r.xs.length = p.r.n) (hrn : ∀ p ∈ ps, p.r.n ≤ 1048576) (hq : 0 ≤ q) (hq2 : q + (tot Lift.wide ps : Nat) ≤ 1073741824) :
    Calls Try.prog 24 #[.slice A n c, .int .i64 q] w fun e w' => e = .returned (.int .i64 (q + (tot Lift.wide ps : Nat))) ∧ Below w.heap.size w w' := by
  have HLen := Lib.hid hlen
  have HRL := Lib.hid hrl
  clear hlen hrl
  go_enter Try.func24, Try.ntmps24
  go_wp2
  go_loopw [1, 5] (fun m i wr => ∃ (k : Nat), k ≤ n ∧ i = .int .i64 k ∧ m = .int .i64 (q + (tot Lift.wide (ps.take k) : Nat)) ∧ Below w.heap.size w wr) (fun _ i _ => n - (intOf i).toNat)
  case atStart => exact ⟨0, Nat.zero_le _, rfl, by simp [tot], Below.refl _ _⟩
  case round =>
    obtain ⟨k, hk, rfl, rfl, hb⟩ := hrel
    by_cases hlt : k < n
    · obtain ⟨b, off, p9, rfl, hx, _, hbl, hrow, c0, c1, c2, c3, c4, c5, c6, c7, c8⟩ := Lift.at (h.below hb) hlt
      obtain ⟨p, hp, rfl⟩ := upTo_turned (by rw [HLen.out]; exact Nat.le_refl _) hx
      have hpn := hrn p (List.mem_of_getElem? hp)
      have HT := Lib.hid (tot_snoc Lift.wide ps k p hp)
      have hT2 : tot Lift.wide (ps.take (k + 1)) ≤ tot Lift.wide ps := tot_le _ _ _
      have hpw : p.wide = 8 + p.r.n := by unfold Lift.wide; rw [HRL.out p (List.mem_of_getElem? hp)]
      have HPW := Lib.hid hpw
      have hbd : q + (tot Lift.wide (ps.take k) : Nat) + 8 + p.r.n ≤ 1073741824 := by have := HT.out; omega
      obtain ⟨Q, hQ⟩ : ∃ Q : Int, Q = q + (tot Lift.wide (ps.take k) : Nat) := ⟨_, rfl⟩
      have HQ := Lib.hid hQ
      have hQ0 : 0 ≤ Q := by omega
      simp only [markLifts, Lift.mk_] at hrow c0 c1 c2 c3 c4 c5 c6 c7 c8
      rw [← hQ] at hbd hrow c0 c1 c2 c3 c4 c5 c6 c7 ⊢
      clear hQ hpw hT2 hx hp
      have hk0 : (0 : Int) ≤ (k : Int) := by omega
      have hk1 : (k : Int) < (n : Int) := by omega
      have hsb := hb.size
      have hsame : ((mText Q).toList == (mText Q).toList) = true := by simp
      go_wp2_with fail
      go_region_held3 (fun w' => w'.cell? ⟨b, off + k * 9, none⟩ = some (.string (mText (Q)))) (first | go_keep | exact (hb1.cell (by simp; omega)).trans c0) (first | (go_at_call 90; refine (markText_any _ _ (by omega) (by omega)).mono ?_; rintro e w1 ⟨rfl, hb1⟩; have S1 := hb1.size; have c11 := (hb1.cell (p := ⟨b, off + k * 9 + 1, none⟩) (by simp; omega)).trans c1; have c21 := (hb1.cell (p := ⟨b, off + k * 9 + 2, none⟩) (by simp; omega)).trans c2; have c31 := (hb1.cell (p := ⟨b, off + k * 9 + 3, none⟩) (by simp; omega)).trans c3; have c41 := (hb1.cell (p := ⟨b, off + k * 9 + 4, none⟩) (by simp; omega)).trans c4; have c51 := (hb1.cell (p := ⟨b, off + k * 9 + 5, none⟩) (by simp; omega)).trans c5; have c61 := (hb1.cell (p := ⟨b, off + k * 9 + 6, none⟩) (by simp; omega)).trans c6; have c71 := (hb1.cell (p := ⟨b, off + k * 9 + 7, none⟩) (by simp; omega)).trans c7; have c81 := (hb1.cell (p := ⟨b, off + k * 9 + 8, none⟩) (by simp; omega)).trans c8; have rowx := (hrow.below (((Below.refl _ _).drew).trans (hb1.mono hsb))).more (show w.heap.size ≤ w1.heap.size by have := hb1.size; simp at this; omega); have Bx := hb.trans (((Below.refl _ _).drew).trans (hb1.mono hsb))))
      clear hsame hb1 hb hrow
      go_wp2_with fail
      refine (heldInt64S_same _ _ _ _ _ _ rowx (by omega) (by omega) (by omega)).mono ?_
      rintro _ w5 ⟨rfl, hb5⟩
      have hs5 := Bx.size
      go_wp2
      go_roundw
      case rel => exact ⟨k + 1, by omega, by go_num, by rw [HT.out, HPW.out]; have h9 := HQ.out; first | go_num | (congr 1; push_cast; omega), Bx.trans (hb5.mono hs5)⟩
      case measure => simp [intOf]; omega
    · obtain rfl : k = n := by omega
      go_wp2
      go_ret
      exact ⟨by rw [List.take_of_length_le (by rw [HLen.out]; exact Nat.le_refl _)]; rfl, hb⟩
end Go.Proofs.Ytbklbhbjlbojdaa
