/- DismantleOrder of the program: it hands back dsXs and dsCode. -/
import Derived.Test.YtencnldflnbdiaaDis
import Derived.Test.YtencnldflnbdiaaDelInt
import Derived.Deep.LoopGhost
import Derived.Lib.MinMax
namespace Go.Proofs.Ytencnldflnbdiaa
open Go.RowKit Go.Sort
set_option linter.unusedVariables false

theorem Own.belowB {α : Type} {c : α → List Value} {k : Nat} {w w' : World} {lo hi B : Nat} {e : TypeId} {A : Option Addr} {n : Nat} {xs : List α} (h : Own c k w lo hi e A n xs) (hb : Below B w w') (hB : hi ≤ B) : Own c k w' lo hi e A n xs :=
  ⟨h.1, fun hn => by
    obtain ⟨g, cs, e1, h1, h0, h2, h3, h4⟩ := h.2 hn
    exact ⟨g, cs, e1, h1, h0, by rw [hb.block g (by omega), h2], h3, h4⟩⟩
theorem Grow.keep {α : Type} {c : α → List Value} {k : Nat} {w w' : World} {lo : Nat} {e : TypeId} {v : Value} {xs : List α} (h : Grow c k w lo e v xs) (hk : ∀ b, lo ≤ b → b < w.heap.size → w'.heap[b]? = w.heap[b]?) : Grow c k w' lo e v xs := by
  refine ⟨h.1, ?_⟩
  rcases h.2 with h2 | ⟨g, cap, cur, hv, hg, hh, r⟩
  · exact .inl h2
  · exact .inr ⟨g, cap, cur, hv, hg, by rw [hk g hg (heap_lt hh)]; exact hh, r⟩
theorem ints_range (k : Nat) : ints (List.range (k + 1)) = ints (List.range k) ++ [(k : Int)] := by rw [List.range_succ, ints_snoc]
theorem disTrue_any (k : Int) (p : Crane) (w : World) :
    Calls Try.prog 39 #[.int .i64 k, .agg #[.string p.v.name, .int .i64 p.v.ax, .int .i64 p.v.ay, .int .i64 p.v.height, .int .i64 p.v.jib, .int .i64 p.v.back, .slice p.r.a p.r.n p.r.cap]] w fun e w' => e = .returned (.bool true) ∧ Below w.heap.size w w' := by
  go_enter Try.func39, Try.ntmps39
  go_wp2
  go_ret
  exact ⟨rfl, (Below.refl _ _).alloc (Nat.le_refl _) _⟩
def AllRet (n : Nat) (w : World) (e : Ending) (w' : World) : Prop :=
  ∃ g cap, e = .returned (.slice (some ⟨g, 0, none⟩) n cap) ∧ n ≤ cap ∧ cap ≤ 9223372036854775807 ∧ w.heap.size ≤ g ∧ g < w'.heap.size ∧ Own ic 1 w' g (g + 1) 2 (some ⟨g, 0, none⟩) n (ints (List.range n)) ∧ Below w.heap.size w w'
set_option maxRecDepth 100000 in
set_option maxHeartbeats 1600000 in
theorem disAll_any (s : Row Crane) (w : World) (lo : Nat) (h : Cranes w lo w.heap.size s.a s.n s.xs) (hn : s.n ≤ 1048576) (h1 : 1 ≤ s.n) :
    Calls Try.prog 38 #[.agg #[.slice s.a s.n s.cap], .func (.func 39) #[] #[]] w (AllRet s.n w) := by
  obtain ⟨A, n, c, ps⟩ := s
  dsimp only at *
  have hb := (Below.refl w.heap.size w).alloc (Nat.le_refl _) (.cells #[.slice A n c] 31)
  have HB := Lib.hid hb
  have HC := Lib.hid h
  clear h hb
  go_enter Try.func38, Try.ntmps38
  go_wp2
  go_loopw [5, 11] (fun v i wr => ∃ k : Nat, k ≤ n ∧ i = .int .i64 k ∧ Grow ic 1 wr w.heap.size 2 v (ints (List.range k)) ∧ Below w.heap.size w wr) (fun _ i _ => n - (intOf i).toNat)
  case atStart => exact ⟨0, Nat.zero_le _, rfl, Grow.nil _ _ _, HB.out⟩
  case round =>
    obtain ⟨k, hk, rfl, hgr, hbw⟩ := hrel
    have hll : (ints (List.range k)).length = k := by rw [ints_len, List.length_range]
    have HLL := Lib.hid hll
    have hll2 : (ints (List.range k)).length ≤ k := Nat.le_of_eq hll
    clear hll
    have hsz := hbw.size
    by_cases hlt : k < n
    · obtain ⟨b, off, p, eA, hx, _, hbl, hrow, c0, c1, c2, c3, c4, c5, c6⟩ := Crane.at (HC.out.below hbw) hlt
      have hkn : (k : Int) < (n : Int) := by omega
      have hk0 : (0 : Int) ≤ (k : Int) := by omega
      have hb2 := (Below.refl wr.heap.size wr).alloc (Nat.le_refl _) (.cells #[.string p.v.name, .int .i64 p.v.ax, .int .i64 p.v.ay, .int .i64 p.v.height, .int .i64 p.v.jib, .int .i64 p.v.back, .slice p.r.a p.r.n p.r.cap] 78)
      have HG2 := Lib.hid (hgr.bel hb2)
      have HW2 := Lib.hid (hbw.trans (hb2.mono hsz))
      clear hx hrow hgr hbw hb2
      go_wp2_with fail
      refine (disTrue_any (k : Int) p _).mono ?_
      rintro e w3 ⟨rfl, hb3⟩
      have HG3 := Lib.hid (HG2.out.bel hb3)
      have HW3 := Lib.hid (HW2.out.trans (hb3.mono HW2.out.size))
      have hs3 := HW3.out.size
      clear c0 c1 c2 c3 c4 c5 c6 hb3
      go_wp2_with ((at_builtin; refine wpList_snoc _ rfl _ _ 26 rfl w.heap.size 2 (.int .i64 0) 8 Try.underlying26 infoInt rfl (by omega) _ _ (((k : Nat) : Int)) rfl (HG3.out.alloc _) _ _ rfl (heap_alloc_new _ _) rfl rfl (ic_one _) (by omega) (by omega) (by simp; omega) ?_; intro v' w5 hg5 hgr5))
      rw [← eA]
      go_roundw
      case rel => exact ⟨k + 1, by omega, by go_num, by rw [ints_range]; exact hg5, (HG3.out.alloc _).below (HW3.out.alloc hs3 _) hgr5 (Nat.le_refl _) (by simp; omega)⟩
      case measure => simp [intOf]; omega
    · obtain rfl : k = n := by omega
      go_wp2
      go_ret
      rcases hgr.2 with ⟨rfl, h0⟩ | ⟨g, cap, cur, rfl, g1, g2, g3, g4, g5, g6⟩
      · rw [HLL.out] at h0; omega
      · rw [HLL.out] at g3
        refine ⟨g, cap, by rw [HLL.out]; rfl, g3, g4, g1, heap_lt g2, ⟨HLL.out, fun hn => ⟨g, cur, rfl, Nat.le_refl _, Nat.lt_succ_self _, g2, by rw [g5]; exact Nat.mul_le_mul_right 1 g3, fun i x hxi j hj => ?_⟩⟩, hbw⟩
        have hi : i < (ints (List.range k)).length := (List.getElem?_eq_some_iff.1 hxi).1
        have hf := flat_at ic_len (ints (List.range k)) i x hxi j hj
        rw [← hf, ← g6, List.getElem?_take, if_pos (by omega)]
        simp

set_option maxRecDepth 100000 in
set_option maxHeartbeats 3200000 in
theorem dismantleOrder_any (s : Row Crane) (cs : List CV) (hv : s.xs.map Crane.val = cs) (w : World) (lo : Nat) (h : Cranes w lo w.heap.size s.a s.n s.xs) (hc : s.n ≤ s.cap) (hc2 : s.cap ≤ 1048576) (hp : ∀ p ∈ s.xs, p.wf) :
    Calls Try.prog 10 #[.agg #[.slice s.a s.n s.cap]] w (RetS ic 1 2 (dsXs cs) (dsCode cs) w) := by
  have HV := Lib.hid hv
  have HP := Lib.hid hp
  have HL : Hid (cs.length = s.n) := by show _ = _; rw [cv_len hv, h.len]
  obtain ⟨A, n, c, ps⟩ := s
  dsimp only at *
  obtain ⟨W, hW⟩ : ∃ W : World, W = w.alloc (.cells #[.slice A n c] 31) := ⟨_, rfl⟩
  have B0 : Below w.heap.size w W := by rw [hW]; exact (Below.refl _ _).alloc (Nat.le_refl _) _
  have P0 : Blk W w.heap.size 31 #[.slice A n c] := by rw [hW]; exact Blk.new _ _ _
  have HC := Lib.hid (h.next B0)
  have HC0 := Lib.hid h
  clear h
  clear hv hp
  cases h1 : siteOk cs
  · have H1 := Lib.hid h1
    have H : Hid (dsXs cs = [] ∧ dsCode cs = 1) := by show _ ∧ _; unfold dsXs dsCode; rw [h1]; exact ⟨rfl, rfl⟩
    clear h1
    go_enter Try.func10, Try.ntmps10
    go_wp2_with fail
    rw [← hW]
    clear hW
    have c9 : W.cell? ⟨w.heap.size, 0, none⟩ = some (.slice A n c) := P0.cell 0
    go_wp2_with fail
    refine (validSite_any ⟨A, n, c, ps⟩ cs HV.out _ lo HC.out hc hc2 HP.out).mono ?_
    rintro e w1 ⟨rfl, hb1⟩
    rw [H1.out]
    have B1 := B0.trans (hb1.mono B0.size)
    clear c9 P0 hb1
    go_wp2
    go_ret2
    rw [H.out.1, H.out.2]; exact RetS.nil B1
  · have H1 := Lib.hid h1
    have hn6 := siteOk_len h1
    rw [HL.out] at hn6
    have hn1 : 1 ≤ n := hn6.1
    have hn7 : n ≤ 6 := hn6.2
    have H : Hid (dsXs cs = ints (disTo cs n n).2 ∧ dsCode cs = 0) := by show _ ∧ _; unfold dsXs dsCode; rw [h1, HL.out]; exact ⟨rfl, rfl⟩
    clear h1 hn6
    go_enter Try.func10, Try.ntmps10
    go_wp2_with fail
    rw [← hW]
    clear hW
    have c9 : W.cell? ⟨w.heap.size, 0, none⟩ = some (.slice A n c) := P0.cell 0
    go_wp2_with fail
    refine (validSite_any ⟨A, n, c, ps⟩ cs HV.out _ lo HC.out hc hc2 HP.out).mono ?_
    rintro e w1 ⟨rfl, hb1⟩
    rw [H1.out]
    have B1 := B0.trans (hb1.mono B0.size)
    have P1 := P0.bel hb1
    have HC1 := Lib.hid (HC.out.next hb1)
    have HHB1 := Lib.hid hb1
    clear c9 P0 hb1
    have c9 : w1.cell? ⟨w.heap.size, 0, none⟩ = some (.slice A n c) := P1.cell 0
    go_wp2_with fail
    refine (disAll_any ⟨A, n, c, ps⟩ _ lo HC1.out (show n ≤ 1048576 by omega) hn1).mono ?_
    rintro e w2 ⟨g, cap, rfl, hcap, hcm, hg1, hg2, ho, hb2⟩
    dsimp only at hcap ho ⊢
    obtain ⟨w3, hw3⟩ : ∃ W : World, W = w2.alloc (.cells #[.slice (some ⟨g, 0, none⟩) n cap] 26) := ⟨_, rfl⟩
    have hb3 : Below w2.heap.size w2 w3 := by rw [hw3]; exact (Below.refl _ _).alloc (Nat.le_refl _) _
    have hL3 : Blk w3 w2.heap.size 26 #[.slice (some ⟨g, 0, none⟩) n cap] := by rw [hw3]; exact Blk.new _ _ _
    have HS3 : w3.heap.size = w2.heap.size + 1 := by rw [hw3]; simp
    have B3 := (B1.trans (hb2.mono B1.size)).trans (hb3.mono (by have := B1.size; have := hb2.size; omega))
    have P3 := (P1.bel hb2).bel hb3
    have HO3 := ho.bel hb3
    have HC3 := Lib.hid ((HC1.out.next hb2).next hb3)
    have HC3' : Hid (Cranes w3 lo w.heap.size A n ps) := ((((HC0.out.below B0).below (HHB1.out.mono B0.size)).below (hb2.mono B1.size)).below (hb3.mono (by have := B1.size; have := hb2.size; omega)))
    have hgb : w.heap.size < g := by have := P1.lt; omega
    have hgL : g < w2.heap.size := hg2
    obtain ⟨bL, hbL⟩ : ∃ b, b = w2.heap.size := ⟨_, rfl⟩
    rw [← hbL] at hL3 hgL HS3
    clear hb2 hb3 ho P1 B1 c9 hg1 hg2
    go_wp2_with fail
    rw [← hw3, ← hbL]
    clear hw3 hbL
    have HB3 := Lib.hid B3
    have hwS : w.heap.size < bL := by omega
    have hs3 : w.heap.size ≤ w3.heap.size := by omega
    have HP3 := Lib.hid P3
    have HL3 := Lib.hid hL3
    have HO3' := Lib.hid HO3
    have HS3' := Lib.hid HS3
    clear B3 P3 hL3 HO3 HS3 HC1
    go_loopg [4, 7] n (fun gk v nx wr => ∃ k r : Nat, k + r = n ∧ gk = r ∧ Grow ic 1 wr w3.heap.size 2 v (ints (disTo cs n k).2) ∧ Blk wr bL 26 #[.slice (some ⟨g, 0, none⟩) r cap] ∧ Own ic 1 wr g (g + 1) 2 (some ⟨g, 0, none⟩) r (ints (leftN cs n k)) ∧ Blk wr w.heap.size 31 #[.slice A n c] ∧ Cranes wr lo w.heap.size A n ps ∧ Below w.heap.size w wr ∧ w3.heap.size ≤ wr.heap.size)
    case atStart => exact ⟨0, n, Nat.zero_add n, rfl, Grow.nil _ _ _, HL3.out, HO3'.out, HP3.out, HC3'.out, HB3.out, Nat.le_refl _⟩
    case round =>
      obtain ⟨k, r, hk, rfl, hgr, hBL, hown, hPS, hcr, hbw, hwr⟩ := hrel
      have hll : (ints (disTo cs n k).2).length ≤ k := Nat.le_of_eq (by rw [ints_len, taken_len])
      have cL : wr.cell? ⟨bL, 0, none⟩ = some (.slice (some ⟨g, 0, none⟩) gk cap) := hBL.cell 0
      have hlL := hBL.lt
      by_cases hlt : 0 < gk
      · have hkn : (0 : Int) < (gk : Int) := by omega
        have hlen : (leftN cs n k).length = gk := by rw [left_len cs n k (by omega)]; omega
        have hnx : nextN cs n k < gk := by have := next_lt cs n (k := k) (by omega); omega
        obtain ⟨j, hj⟩ : ∃ j, j = nextN cs n k := ⟨_, rfl⟩
        rw [← hj] at hnx
        obtain ⟨b, hb⟩ : ∃ b, (leftN cs n k)[j]? = some b := ⟨_, List.getElem?_eq_getElem (by rw [hlen]; exact hnx)⟩
        have hTS := taken_step cs n (k := k) (b := b) (by rw [← hj]; exact hb)
        have hLS : leftN cs n (k + 1) = (leftN cs n k).eraseIdx j := by rw [hj]; rfl
        have HTS : Hid (ints (disTo cs n (k + 1)).2 = ints (disTo cs n k).2 ++ [(b : Int)]) := by show _ = _; rw [hTS, ints_snoc]
        have HLS : Hid (ints (leftN cs n (k + 1)) = (ints (leftN cs n k)).eraseIdx j) := by show _ = _; rw [hLS, ints_erase]
        have HJ : Hid (fIdx (fun v : Int => helpN cs (leftN cs n k) v.toNat) (ints (leftN cs n k)) = fIdx (helpN cs (leftN cs n k)) (leftN cs n k)) := by
          show _ = _; rw [fIdx_ints]; rfl
        have HJ2 : Hid ((fIdx (helpN cs (leftN cs n k)) (leftN cs n k)).toNat = j) := hj.symm
        have HB := Lib.hid (ints_at hb)
        have HLT := Lib.hid (left_lt cs n k)
        have HF : Hid (∀ (v : Int) (X : World), v ∈ ints (leftN cs n k) → Below wr.heap.size wr X → Calls Try.prog 40 #[.int .i64 v, .pointer (some ⟨bL, 0, none⟩), .pointer (some ⟨w.heap.size, 0, none⟩)] X fun e W' => e = .returned (.bool (helpN cs (leftN cs n k) v.toNat)) ∧ Below X.heap.size X W') := fun v X hvx hX => by
          obtain ⟨t, ht⟩ := List.getElem?_of_mem hvx
          obtain ⟨i, hi, rfl⟩ := ints_at' ht
          have hX1 := hX.size
          have hw1 := hbw.size
          have := disHelped_any bL w.heap.size i gk cap (some ⟨g, 0, none⟩) (leftN cs n k) ⟨A, n, c, ps⟩ cs HV.out X lo g ((hX.cell (p := ⟨bL, 0, none⟩) (show bL < wr.heap.size from hlL)).trans cL) (by omega) (((hown.bel hX).arr ic_len).more (by omega)) (by omega) (HLT.out) (show X.cell? ⟨w.heap.size, 0, none⟩ = _ from (hX.cell (p := ⟨w.heap.size, 0, none⟩) (show w.heap.size < wr.heap.size by omega)).trans (hPS.cell 0)) (by omega) ((hcr.below (hX.mono (by omega))).more (by omega)) (show n ≤ 1048576 by omega) H1.out (HLT.out i (List.mem_of_getElem? hi))
          rwa [show ((i : Nat) : Int).toNat = i from rfl]
        have HGR := Lib.hid hgr
        have HBL := Lib.hid hBL
        have HOW := Lib.hid hown
        have HPS := Lib.hid hPS
        have HCR := Lib.hid hcr
        have HBW := Lib.hid hbw
        clear hj hb hTS hLS hgr hBL hown hPS hcr hbw hlen
        go_wp2_with fail
        refine (indexHelp_any (some ⟨g, 0, none⟩) gk cap (ints (leftN cs n k)) _ g ((HOW.out.arr ic_len).more (by omega)) (by omega) _ ⟨bL, 0, none⟩ ⟨w.heap.size, 0, none⟩ HF.out).mono ?_
        rintro e w4 ⟨rfl, hb4⟩
        rw [HJ.out]
        obtain ⟨F, hF⟩ : ∃ F, fIdx (helpN cs (leftN cs n k)) (leftN cs n k) = F := ⟨_, rfl⟩
        have HJ3 : Hid (F.toNat = j) := by show _ = _; rw [← hF]; exact HJ2.out
        rw [hF]
        clear hF HJ HJ2 HF cL
        have hs4 := hb4.size
        have HW4 := Lib.hid (HBW.out.trans (hb4.mono HBW.out.size))
        have HG4 := Lib.hid (HGR.out.bel hb4)
        have HBL4 := Lib.hid (HBL.out.bel hb4)
        have HOW4 := Lib.hid (HOW.out.bel hb4)
        have HPS4 := Lib.hid (HPS.out.bel hb4)
        have HCR4 := Lib.hid (HCR.out.below (hb4.mono HBW.out.size))
        have cL : w4.cell? ⟨bL, 0, none⟩ = some (.slice (some ⟨g, 0, none⟩) gk cap) := HBL4.out.cell 0
        have cJ : w4.cell? ⟨g, j, none⟩ = some (.int .i64 (b : Int)) := by
          have := (HOW4.out.arr ic_len).2 (by omega)
          obtain ⟨b0, off0, e0, _, _, hh⟩ := this
          cases e0
          have h9 := hh j _ HB.out 0 _ rfl
          rwa [Nat.zero_add, Nat.mul_one, Nat.add_zero] at h9
        clear HGR HBL HOW HPS HCR HBW hb4
        have hj0 : (0 : Int) ≤ (j : Int) := by omega
        have hj1 : (j : Int) < (gk : Int) := by omega
        have hF2 : max F 0 = (j : Int) := by have := HJ3.out; omega
        have hn4 : w3.heap.size ≤ w4.heap.size := by omega
        have hkc : ((j : Int) + 1) = ((j + 1 : Nat) : Int) := by push_cast; rfl
        have HKC := Lib.hid hkc
        clear hkc
        go_wp2_with ((at_builtin; refine wpList_snoc _ rfl _ _ 26 rfl w3.heap.size 2 (.int .i64 0) 8 Try.underlying26 infoInt rfl (by omega) _ _ (((b : Nat) : Int)) rfl (HG4.out.alloc _) _ _ rfl (heap_alloc_new _ _) rfl rfl (ic_one _) (by omega) (by omega) (by simp; omega) ?_; intro v5 w5 hg5 hgr5; have hb5 : Below w3.heap.size w4 w5 := (HG4.out.alloc _).below ((Below.refl _ _).alloc hn4 _) hgr5 (Nat.le_refl _) (by simp; omega); have HBL5 : Hid (Blk w5 bL 26 #[.slice (some ⟨g, 0, none⟩) gk cap]) := HBL4.out.below hb5 (by have := HS3'.out; omega); have c5 : w5.cell? ⟨bL, 0, none⟩ = some (.slice (some ⟨g, 0, none⟩) gk cap) := HBL5.out.cell 0))
        rw [HKC.out]
        have hs5 := hb5.size
        have HW5 := Lib.hid (HW4.out.trans (hb5.mono hs3))
        have HPS5 := Lib.hid (HPS4.out.below hb5 (by have := HS3'.out; omega))
        have HCR5 := Lib.hid (HCR4.out.below (hb5.mono hs3))
        have HOW5 := Lib.hid (HOW4.out.belowB hb5 (by have := HS3'.out; omega))
        have HG5 := Lib.hid hg5
        clear hg5 hgr5 hb5 cL cJ
        refine (deleteInt_any g gk cap j (j + 1) g (g + 1) _ w5 HOW5.out rfl (by omega) (by omega) hcm).mono ?_
        rintro e w6 ⟨rfl, ho6, hwi6⟩
        have hs6 := hwi6.size
        have HWI := Lib.hid hwi6
        have HBL6 : Hid (Blk w6 bL 26 #[.slice (some ⟨g, 0, none⟩) gk cap]) := (hwi6.block bL (by omega) (by omega)).trans HBL5.out
        have c6 : w6.cell? ⟨bL, 0, none⟩ = some (.slice (some ⟨g, 0, none⟩) gk cap) := HBL6.out.cell 0
        have f6 : w6.frozen? ⟨bL, 0, none⟩ = false := HBL6.out.frozen 0
        have hL6 : bL < w6.heap.size := by omega
        have HO6 := Lib.hid ho6
        clear ho6 hwi6 c5
        go_wp2
        go_roundg (gk - 1)
        case measure => omega
        case rel =>
          have hset : Within bL (bL + 1) w6 (w6.setCell ⟨bL, 0, none⟩ (.slice (some ⟨g, 0, none⟩) (gk - 1) cap)) := (Within.refl _ _ _).setCell (p := ⟨bL, 0, none⟩) (Nat.le_refl _) (Nat.lt_succ_self _) _
          have hS := HS3'.out
          refine ⟨k + 1, gk - 1, by omega, rfl, ?_, HBL6.out.set_lit rfl, ?_, ?_, ?_, ?_, ?_⟩
          · rw [HTS.out]; exact (HG5.out.keep (fun b h1 h2 => HWI.out.block b h2 (by omega))).keep (fun b h1 h2 => hset.block b h2 (by omega))
          · rw [HLS.out]; exact HO6.out.within hset (.inl (by omega))
          · exact (hset.block _ (by omega) (by omega)).trans ((HWI.out.block _ (by omega) (by omega)).trans HPS5.out)
          · exact (HCR5.out.below (Below.within (Below.refl _ _) HWI.out (by omega) (by omega))).below (Below.within (Below.refl _ _) hset (by omega) (by omega))
          · exact Below.within (Below.within HW5.out HWI.out (by omega) (by omega)) hset (by omega) (by omega)
          · simp; omega
      · obtain rfl : gk = 0 := by omega
        obtain rfl : k = n := by omega
        have hB9 := Lib.hid hbw
        go_wp2
        go_ret2
        rw [H.out.1, H.out.2]
        exact Grow.rets ⟨hgr.1, hgr.2.imp id (fun ⟨g9, c9, cur, h1, h2, h3⟩ => ⟨g9, c9, cur, h1, by omega, h3⟩)⟩ ic_len hB9.out
end Go.Proofs.Ytencnldflnbdiaa
