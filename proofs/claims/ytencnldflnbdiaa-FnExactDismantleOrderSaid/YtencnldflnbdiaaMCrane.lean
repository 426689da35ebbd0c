/- markCraneS and heldCraneS: what they write, and that what was written is found again. -/
import Derived.Test.YtencnldflnbdiaaRCrane
import Derived.Test.YtencnldflnbdiaaNest3
import Derived.Test.YtencnldflnbdiaaMarkText
import Derived.Test.YtencnldflnbdiaaMChartStep
import Derived.Deep.RegionHeld3
namespace Go.Proofs.Ytencnldflnbdiaa
open Go.RowKit
set_option linter.unusedVariables false

/-- the record that markCraneS makes of p at number q -/
def Crane.mk_ (q : Int) (p : Crane) : Crane := ⟨⟨(mText (q)), (q + 1), (q + 1 + 1), (q + 1 + 1 + 1), (q + 1 + 1 + 1 + 1), (q + 1 + 1 + 1 + 1 + 1)⟩, ⟨p.r.a, p.r.n, p.r.cap, marksChartStep (q + 1 + 1 + 1 + 1 + 1 + 1) p.r.n⟩⟩
def Crane.wide (p : Crane) : Nat := 6 + 2 * p.r.xs.length
def markCranes (q : Int) (ps : List Crane) (i : Nat) (p : Crane) : Crane := p.mk_ (q + (tot Crane.wide (ps.take i) : Nat))
theorem tot_wideCrane {ps ps2 : List Crane} (h : ps.map Crane.val = ps2.map Crane.val) : tot Crane.wide ps = tot Crane.wide ps2 := by
  have e : ∀ qs : List Crane, qs.map Crane.wide = (qs.map Crane.val).map (fun v => 6 + 2 * v.2.length) := by intro qs; rw [List.map_map]; rfl
  unfold tot; rw [e, e, h]
theorem tot_wideCrane_le {ps : List Crane} (h : ∀ p ∈ ps, p.r.xs.length = p.r.n) : tot Crane.wide ps ≤ 6 * ps.length + 2 * tot Crane.sz ps := by
  induction ps with
  | nil => simp [tot]
  | cons p ps ih =>
    have h1 := ih (fun q hq => h q (List.mem_cons_of_mem _ hq))
    have h2 := h p List.mem_cons_self
    simp only [tot, List.map_cons, List.sum_cons, List.length_cons] at *
    unfold Crane.wide Crane.sz at *
    omega
theorem arr6_old (cs : Array Value) (t i : Nat) (u0 u1 u2 u3 u4 u5 : Value) (hi : i < t ∨ t + 6 ≤ i) : (((((((cs.setIfInBounds (t) u0).setIfInBounds (t + 1) u1).setIfInBounds (t + 2) u2).setIfInBounds (t + 3) u3).setIfInBounds (t + 4) u4).setIfInBounds (t + 5) u5))[i]? = cs[i]? := by
  rw [Array.getElem?_setIfInBounds_ne (by omega), Array.getElem?_setIfInBounds_ne (by omega), Array.getElem?_setIfInBounds_ne (by omega), Array.getElem?_setIfInBounds_ne (by omega), Array.getElem?_setIfInBounds_ne (by omega), Array.getElem?_setIfInBounds_ne (by omega)]
theorem arr6_0 (cs : Array Value) (t : Nat) (u0 u1 u2 u3 u4 u5 : Value) (ht : t + 6 ≤ cs.size) : (((((((cs.setIfInBounds (t) u0).setIfInBounds (t + 1) u1).setIfInBounds (t + 2) u2).setIfInBounds (t + 3) u3).setIfInBounds (t + 4) u4).setIfInBounds (t + 5) u5))[t]? = some u0 := by
  rw [Array.getElem?_setIfInBounds_ne (by omega), Array.getElem?_setIfInBounds_ne (by omega), Array.getElem?_setIfInBounds_ne (by omega), Array.getElem?_setIfInBounds_ne (by omega), Array.getElem?_setIfInBounds_ne (by omega), Array.getElem?_setIfInBounds_self_of_lt (by first | omega | (simp; omega))]
theorem arr6_1 (cs : Array Value) (t : Nat) (u0 u1 u2 u3 u4 u5 : Value) (ht : t + 6 ≤ cs.size) : (((((((cs.setIfInBounds (t) u0).setIfInBounds (t + 1) u1).setIfInBounds (t + 2) u2).setIfInBounds (t + 3) u3).setIfInBounds (t + 4) u4).setIfInBounds (t + 5) u5))[t + 1]? = some u1 := by
  rw [Array.getElem?_setIfInBounds_ne (by omega), Array.getElem?_setIfInBounds_ne (by omega), Array.getElem?_setIfInBounds_ne (by omega), Array.getElem?_setIfInBounds_ne (by omega), Array.getElem?_setIfInBounds_self_of_lt (by first | omega | (simp; omega))]
theorem arr6_2 (cs : Array Value) (t : Nat) (u0 u1 u2 u3 u4 u5 : Value) (ht : t + 6 ≤ cs.size) : (((((((cs.setIfInBounds (t) u0).setIfInBounds (t + 1) u1).setIfInBounds (t + 2) u2).setIfInBounds (t + 3) u3).setIfInBounds (t + 4) u4).setIfInBounds (t + 5) u5))[t + 2]? = some u2 := by
  rw [Array.getElem?_setIfInBounds_ne (by omega), Array.getElem?_setIfInBounds_ne (by omega), Array.getElem?_setIfInBounds_ne (by omega), Array.getElem?_setIfInBounds_self_of_lt (by first | omega | (simp; omega))]
theorem arr6_3 (cs : Array Value) (t : Nat) (u0 u1 u2 u3 u4 u5 : Value) (ht : t + 6 ≤ cs.size) : (((((((cs.setIfInBounds (t) u0).setIfInBounds (t + 1) u1).setIfInBounds (t + 2) u2).setIfInBounds (t + 3) u3).setIfInBounds (t + 4) u4).setIfInBounds (t + 5) u5))[t + 3]? = some u3 := by
  rw [Array.getElem?_setIfInBounds_ne (by omega), Array.getElem?_setIfInBounds_ne (by omega), Array.getElem?_setIfInBounds_self_of_lt (by first | omega | (simp; omega))]
theorem arr6_4 (cs : Array Value) (t : Nat) (u0 u1 u2 u3 u4 u5 : Value) (ht : t + 6 ≤ cs.size) : (((((((cs.setIfInBounds (t) u0).setIfInBounds (t + 1) u1).setIfInBounds (t + 2) u2).setIfInBounds (t + 3) u3).setIfInBounds (t + 4) u4).setIfInBounds (t + 5) u5))[t + 4]? = some u4 := by
  rw [Array.getElem?_setIfInBounds_ne (by omega), Array.getElem?_setIfInBounds_self_of_lt (by first | omega | (simp; omega))]
theorem arr6_5 (cs : Array Value) (t : Nat) (u0 u1 u2 u3 u4 u5 : Value) (ht : t + 6 ≤ cs.size) : (((((((cs.setIfInBounds (t) u0).setIfInBounds (t + 1) u1).setIfInBounds (t + 2) u2).setIfInBounds (t + 3) u3).setIfInBounds (t + 4) u4).setIfInBounds (t + 5) u5))[t + 5]? = some u5 := by
  rw [Array.getElem?_setIfInBounds_self_of_lt (by first | omega | (simp; omega))]

def MarkCraneS (w : World) (lo hi : Nat) (A : Option Addr) (n : Nat) (ps : List Crane) (q : Int) (e : Ending) (w' : World) : Prop :=
  e = .returned (.int .i64 (q + (tot Crane.wide ps : Nat))) ∧ Within lo hi w w' ∧ CranesOwn w' lo hi A n (upTo (markCranes q ps) ps n)
set_option maxRecDepth 100000 in
set_option maxHeartbeats 3200000 in
theorem markCraneS_any (A : Option Addr) (n c : Nat) (ps : List Crane) (q : Int) (w : World) (lo hi : Nat) (h : CranesOwn w lo hi A n ps) (hn : n ≤ 1048576) (hrn : ∀ p ∈ ps, p.r.n ≤ 1048576) (hq : 0 ≤ q) (hq2 : q + (tot Crane.wide ps : Nat) ≤ 1073741824) :
    Calls Try.prog 47 #[.slice A n c, .int .i64 q] w (MarkCraneS w lo hi A n ps q) := by
  obtain ⟨mid, f, hlm, hmh, ho, ht⟩ := h
  have hlen := ho.1
  by_cases hn0 : n = 0
  · subst hn0
    have hnil : ps = [] := List.length_eq_zero_iff.1 hlen
    subst hnil
    go_enter Try.func47, Try.ntmps47
    go_wp2
    refine wp_loop_rounds 1 ?_
    rw [rounds_succ]
    go_wp2
    go_ret
    exact ⟨ret_int (by simp [tot]), Within.refl _ _ _, mid, f, hlm, hmh, by first | exact ho | simpa [upTo] using ho, by first | exact ht | simpa [upTo] using ht⟩
  · obtain ⟨g, cs0, rfl, hg1, hg2, hb0, hs0, _⟩ := ho.2 (by omega)
    have HLen := Lib.hid hlen
    clear hlen
    go_enter Try.func47, Try.ntmps47
    go_wp2
    go_loopw [1, 5] (fun m i wr => ∃ (k : Nat) (cs : Array Value), k ≤ n ∧ i = .int .i64 k ∧ m = .int .i64 (q + (tot Crane.wide (ps.take k) : Nat)) ∧ Blk wr g 78 cs ∧ n * 7 ≤ cs.size ∧ Own Crane.cs 7 wr lo mid 78 (some ⟨g, 0, none⟩) n (upTo (markCranes q ps) ps k) ∧ Tiles ChartStep.cs 2 151 Crane.r wr mid hi (upTo (markCranes q ps) ps k) f ∧ Within lo hi w wr) (fun _ i _ => n - (intOf i).toNat)
    case atStart => exact ⟨0, cs0, Nat.zero_le _, rfl, by simp [tot], hb0, hs0, by rw [upTo_zero]; exact ho, by rw [upTo_zero]; exact ht, Within.refl _ _ _⟩
    case round =>
      obtain ⟨k, cs, hk, rfl, rfl, hblk, hsz, ho1, ht1, hw⟩ := hrel
      clear ho ht
      have HZ := Lib.hid hsz
      clear hsz
      by_cases hlt : k < n
      · obtain ⟨p, hp⟩ : ∃ p, ps[k]? = some p := ⟨_, List.getElem?_eq_getElem (by rw [HLen.out]; exact hlt)⟩
        have HP := Lib.hid hp
        have hpn := hrn p (List.mem_of_getElem? hp)
        have hup := upTo_at (t := markCranes q ps) hp
        have HU := Lib.hid hup
        have HT := Lib.hid (tot_snoc Crane.wide ps k p hp)
        have hT2 : tot Crane.wide (ps.take (k + 1)) ≤ tot Crane.wide ps := tot_le _ _ _
        have hrow := ht1.own k p hup
        have hrl := hrow.1
        have hpw : p.wide = 6 + 2 * p.r.n := by unfold Crane.wide; rw [hrl]
        have HRL := Lib.hid hrl
        have HPW := Lib.hid hpw
        have hbd : q + (tot Crane.wide (ps.take k) : Nat) + 6 + 2 * p.r.n ≤ 1073741824 := by have := HT.out; omega
        have hmk : markCranes q ps k p = p.mk_ (q + (tot Crane.wide (ps.take k) : Nat)) := rfl
        have HMK := Lib.hid hmk
        obtain ⟨Q, hQ⟩ : ∃ Q : Int, Q = q + (tot Crane.wide (ps.take k) : Nat) := ⟨_, rfl⟩
        have HQ := Lib.hid hQ
        have hQ0 : 0 ≤ Q := by omega
        rw [← hQ] at hbd HMK ⊢
        clear hQ hmk hrl hpw hT2 hup hp
        have hfl : mid ≤ f k := ht1.upto k (by rw [upTo_len, HLen.out]; omega)
        have hfh : f (k + 1) ≤ hi := Nat.le_trans (ht1.le (a := k + 1) (b := (upTo (markCranes q ps) ps k).length) (by rw [upTo_len, HLen.out]; omega) (Nat.le_refl _)) ht1.hi_
        have hgw := hblk.lt
        obtain ⟨u0, e0⟩ : ∃ u, wr.cell? ⟨g, k * 7, none⟩ = some u := hblk.there (by have := HZ.out; omega)
        obtain ⟨u1, e1⟩ : ∃ u, wr.cell? ⟨g, k * 7 + 1, none⟩ = some u := hblk.there (by have := HZ.out; omega)
        obtain ⟨u2, e2⟩ : ∃ u, wr.cell? ⟨g, k * 7 + 2, none⟩ = some u := hblk.there (by have := HZ.out; omega)
        obtain ⟨u3, e3⟩ : ∃ u, wr.cell? ⟨g, k * 7 + 3, none⟩ = some u := hblk.there (by have := HZ.out; omega)
        obtain ⟨u4, e4⟩ : ∃ u, wr.cell? ⟨g, k * 7 + 4, none⟩ = some u := hblk.there (by have := HZ.out; omega)
        obtain ⟨u5, e5⟩ : ∃ u, wr.cell? ⟨g, k * 7 + 5, none⟩ = some u := hblk.there (by have := HZ.out; omega)
        have e6 : wr.cell? ⟨g, k * 7 + 6, none⟩ = some (.slice p.r.a p.r.n p.r.cap) := by
          have hoa := ho1.arr (c := Crane.cs) Crane.cs_len
          obtain ⟨b9, off9, x9, h91, h92, _, _, h93⟩ := hoa.cells hlt
          cases h91
          rw [HU.out] at h92; cases h92
          have := h93 6 _ rfl; rwa [Nat.zero_add] at this
        have f0 := hblk.frozen (k * 7)
        have f1 := hblk.frozen (k * 7 + 1)
        have f2 := hblk.frozen (k * 7 + 2)
        have f3 := hblk.frozen (k * 7 + 3)
        have f4 := hblk.frozen (k * 7 + 4)
        have f5 := hblk.frozen (k * 7 + 5)
        have f6 := hblk.frozen (k * 7 + 6)
        have HB := Lib.hid hblk
        clear hblk
        have hk1 : (k : Int) < (n : Int) := by omega
        go_wp2_with fail
        refine (markText_any _ _ (by omega) (by omega)).mono ?_
        rintro _ w1 ⟨rfl, hb1⟩
        replace e0 := (hb1.cell (p := ⟨g, k * 7, none⟩) hgw).trans e0
        replace e1 := (hb1.cell (p := ⟨g, k * 7 + 1, none⟩) hgw).trans e1
        replace e2 := (hb1.cell (p := ⟨g, k * 7 + 2, none⟩) hgw).trans e2
        replace e3 := (hb1.cell (p := ⟨g, k * 7 + 3, none⟩) hgw).trans e3
        replace e4 := (hb1.cell (p := ⟨g, k * 7 + 4, none⟩) hgw).trans e4
        replace e5 := (hb1.cell (p := ⟨g, k * 7 + 5, none⟩) hgw).trans e5
        replace e6 := (hb1.cell (p := ⟨g, k * 7 + 6, none⟩) hgw).trans e6
        replace f0 := (hb1.frozen (p := ⟨g, k * 7, none⟩) hgw).trans f0
        replace f1 := (hb1.frozen (p := ⟨g, k * 7 + 1, none⟩) hgw).trans f1
        replace f2 := (hb1.frozen (p := ⟨g, k * 7 + 2, none⟩) hgw).trans f2
        replace f3 := (hb1.frozen (p := ⟨g, k * 7 + 3, none⟩) hgw).trans f3
        replace f4 := (hb1.frozen (p := ⟨g, k * 7 + 4, none⟩) hgw).trans f4
        replace f5 := (hb1.frozen (p := ⟨g, k * 7 + 5, none⟩) hgw).trans f5
        replace f6 := (hb1.frozen (p := ⟨g, k * 7 + 6, none⟩) hgw).trans f6
        have B1 := HB.out.bel hb1
        have o1 := ho1.bel hb1
        have t1 := ht1.below hb1
        have W1 := hw.trans (.of_below lo hi hb1)
        have hs1 := hb1.size
        clear HB ho1 ht1 hw hb1
        go_wp2_with fail
        have B2 := ((((((B1.set_ (k * 7) (.string (mText (Q)))).set_ (k * 7 + 1) (.int .i64 (Q + 1))).set_ (k * 7 + 2) (.int .i64 (Q + 1 + 1))).set_ (k * 7 + 3) (.int .i64 (Q + 1 + 1 + 1))).set_ (k * 7 + 4) (.int .i64 (Q + 1 + 1 + 1 + 1))).set_ (k * 7 + 5) (.int .i64 (Q + 1 + 1 + 1 + 1 + 1)))
        have W2 := (((((((Within.refl lo mid w1).setCell (p := ⟨g, k * 7, none⟩) hg1 hg2 (.string (mText (Q)))).setCell (p := ⟨g, k * 7 + 1, none⟩) hg1 hg2 (.int .i64 (Q + 1))).setCell (p := ⟨g, k * 7 + 2, none⟩) hg1 hg2 (.int .i64 (Q + 1 + 1))).setCell (p := ⟨g, k * 7 + 3, none⟩) hg1 hg2 (.int .i64 (Q + 1 + 1 + 1))).setCell (p := ⟨g, k * 7 + 4, none⟩) hg1 hg2 (.int .i64 (Q + 1 + 1 + 1 + 1))).setCell (p := ⟨g, k * 7 + 5, none⟩) hg1 hg2 (.int .i64 (Q + 1 + 1 + 1 + 1 + 1)))
        generalize ((((((w1.setCell ⟨g, k * 7, none⟩ (.string (mText (Q)))).setCell ⟨g, k * 7 + 1, none⟩ (.int .i64 (Q + 1))).setCell ⟨g, k * 7 + 2, none⟩ (.int .i64 (Q + 1 + 1))).setCell ⟨g, k * 7 + 3, none⟩ (.int .i64 (Q + 1 + 1 + 1))).setCell ⟨g, k * 7 + 4, none⟩ (.int .i64 (Q + 1 + 1 + 1 + 1))).setCell ⟨g, k * 7 + 5, none⟩ (.int .i64 (Q + 1 + 1 + 1 + 1 + 1))) = wx at B2 W2 ⊢
        have row2 := (t1.own k p HU.out).within W2 (.inr hfl)
        have t2 := t1.within W2 (.inr (Nat.le_refl _))
        have o2 := o1.turn (y := p.mk_ Q) HU.out B1 B2 (by simp) (fun t ht => arr6_old _ _ _ _ _ _ _ _ _ (by omega)) (fun j hj => by
          have hz := HZ.out
          have : j = 0 ∨ j = 1 ∨ j = 2 ∨ j = 3 ∨ j = 4 ∨ j = 5 ∨ j = 6 := by omega
          rcases this with rfl | rfl | rfl | rfl | rfl | rfl | rfl
          · left; exact arr6_0 _ _ _ _ _ _ _ _ (by omega)
          · left; exact arr6_1 _ _ _ _ _ _ _ _ (by omega)
          · left; exact arr6_2 _ _ _ _ _ _ _ _ (by omega)
          · left; exact arr6_3 _ _ _ _ _ _ _ _ (by omega)
          · left; exact arr6_4 _ _ _ _ _ _ _ _ (by omega)
          · left; exact arr6_5 _ _ _ _ _ _ _ _ (by omega)
          · right; exact ⟨arr6_old _ _ _ _ _ _ _ _ _ (by omega), rfl⟩)
        have hs2 := W2.size
        clear o1 t1 e0 e1 e2 e3 e4 e5 e6 f0 f1 f2 f3 f4 f5 f6 B1
        refine (markChartStepS_any _ _ _ _ _ _ (f k) (f (k + 1)) row2 (by omega) (by omega) (by omega)).mono ?_
        rintro _ w3 ⟨rfl, hw3, o3⟩
        have t3 := t2.turn (p' := p.mk_ Q) HU.out hw3 (by first | exact o3 | (have := o3; simpa [Crane.mk_] using this))
        have o4 := o2.within hw3 (.inl hfl)
        have B3 := (hw3.block g (by have := B2.lt; omega) (by omega)).trans B2
        rw [← HMK.out] at t3 o4
        rw [upTo_set HP.out] at t3 o4
        have W3 := (W1.trans (W2.mono (Nat.le_refl _) hmh)).trans (hw3.mono (by omega) hfh)
        clear t2 o2 B2 W1 W2 hw3 o3 row2
        have HO4 := Lib.hid o4
        have HT3 := Lib.hid t3
        have HB3 := Lib.hid B3
        clear o4 t3 B3
        go_wp2
        go_roundw
        case rel => exact ⟨k + 1, _, by omega, by go_num, by rw [HT.out, HPW.out]; have h9 := HQ.out; first | go_num | (congr 1; push_cast; omega), HB3.out, by have := HZ.out; simpa using this, HO4.out, HT3.out, W3⟩
        case measure => simp [intOf]; omega
      · obtain rfl : k = n := by omega
        go_wp2
        go_ret
        exact ⟨by rw [List.take_of_length_le (by rw [HLen.out]; exact Nat.le_refl _)]; rfl, hw, mid, f, hlm, hmh, ho1, ht1⟩
end Go.Proofs.Ytencnldflnbdiaa
