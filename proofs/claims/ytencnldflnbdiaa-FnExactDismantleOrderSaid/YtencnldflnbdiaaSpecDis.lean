/- DismantleOrder of the reference: dsXs and dsCode. -/
import Derived.Test.YtencnldflnbdiaaSpecTakes
import Derived.Test.YtencnldflnbdiaaDisOrder
import Derived.Test.YtencnldflnbdiaaRBool
import Derived.Deep.LoopGhost
namespace Go.Proofs.Ytencnldflnbdiaa
open Go.RowKit Go.Sort
set_option linter.unusedVariables false

/-- is a crane ahead of place i, that is left, one that takes crane k -/
def hlpTo (cs : List CV) (l : List Nat) (k i : Nat) : Bool := (List.range i).any fun j => decide (j ∈ l) && (!decide (j = k) && takesAt cs j k)
theorem hlpTo_step (cs : List CV) (l : List Nat) (k i : Nat) : hlpTo cs l k (i + 1) = (hlpTo cs l k i || (decide (i ∈ l) && (!decide (i = k) && takesAt cs i k))) := by
  unfold hlpTo; rw [List.range_succ, List.any_append]; simp
theorem hlpTo_end {cs : List CV} {l : List Nat} {k n : Nat} (h : ∀ j ∈ l, j < n) : hlpTo cs l k n = helpN cs l k := by
  unfold hlpTo helpN
  rw [Bool.eq_iff_iff, List.any_eq_true, List.any_eq_true]
  constructor
  · rintro ⟨j, _, hj⟩
    rw [Bool.and_eq_true, decide_eq_true_eq] at hj
    exact ⟨j, hj.1, hj.2⟩
  · rintro ⟨j, h1, h2⟩
    exact ⟨j, List.mem_range.2 (h j h1), by rw [Bool.and_eq_true, decide_eq_true_eq]; exact ⟨h1, h2⟩⟩
theorem dheap_new_at (w : World) (o : Obj) {g : Nat} (h : w.heap.size = g) : (w.alloc o).heap[g]? = some o := by subst h; exact heap_alloc_new _ _
/-- the places that are gone -/
def Gn (w : World) (G n : Nat) (l : List Nat) : Prop := ∃ cs, Blk w G 4 cs ∧ cs.size = n ∧ ∀ i, i < n → cs[i]? = some (.bool (!decide (i ∈ l)))
/-- what stands in memory in a round -/
structure DS (w : World) (lo n : Nat) (A : Option Addr) (c : Nat) (ps : List Crane) (G : Nat) (l : List Nat) (v : Value) (xs : List Int) (wr : World) : Prop where
  gn : Gn wr G n l
  gr : Grow ic 1 wr (G + 1) 2 v xs
  site : Blk wr w.heap.size 31 #[.slice A n c]
  cr : Cranes wr lo w.heap.size A n ps
  bw : Below w.heap.size w wr
  sG : w.heap.size < G
theorem DS.lt {w : World} {lo n : Nat} {A : Option Addr} {c : Nat} {ps : List Crane} {G : Nat} {l : List Nat} {v : Value} {xs : List Int} {wr : World} (h : DS w lo n A c ps G l v xs wr) : G < wr.heap.size := by
  obtain ⟨cs, h1, _⟩ := h.gn; exact h1.lt
theorem DS.bel {w : World} {lo n : Nat} {A : Option Addr} {c : Nat} {ps : List Crane} {G : Nat} {l : List Nat} {v : Value} {xs : List Int} {wr w' : World} (h : DS w lo n A c ps G l v xs wr) (hb : Below wr.heap.size wr w') : DS w lo n A c ps G l v xs w' := by
  have hl := h.lt
  have hs := h.sG
  obtain ⟨cs, h1, h2, h3⟩ := h.gn
  exact ⟨⟨cs, h1.bel hb, h2, h3⟩, h.gr.bel hb, h.site.bel hb, h.cr.below (hb.mono (by omega)), h.bw.trans (hb.mono (by omega)), hs⟩
theorem DS.cell {w : World} {lo n : Nat} {A : Option Addr} {c : Nat} {ps : List Crane} {G : Nat} {l : List Nat} {v : Value} {xs : List Int} {wr : World} (h : DS w lo n A c ps G l v xs wr) {i : Nat} (hi : i < n) : wr.cell? ⟨G, i, none⟩ = some (.bool (!decide (i ∈ l))) := by
  obtain ⟨cs, h1, h2, h3⟩ := h.gn
  rw [h1.cell]; exact h3 i hi

theorem DS.takes {w : World} {lo n b off : Nat} {c : Nat} {ps : List Crane} {cs : List CV} {G : Nat} {l : List Nat} {v : Value} {xs : List Int} {wr X : World} (h : DS w lo n (some ⟨b, off, none⟩) c ps G l v xs wr) (hv : ps.map Crane.val = cs) (hok : siteOk cs = true) {i k : Nat} (hi : i < n) (hk : k < n) (hx : Below wr.heap.size wr X) :
    Calls Try.prog 35 #[.pointer (some ⟨b, off + i * 7, none⟩), .pointer (some ⟨b, off + k * 7, none⟩)] X fun e w' => e = .returned (.bool (takesAt cs i k)) ∧ Below X.heap.size X w' := by
  have hX := h.bel hx
  have hlt := hX.lt
  have hsG := hX.sG
  obtain ⟨b1, off1, q, e1, hq, _, hb1, _, c0, c1, c2, c3, c4, c5, c6⟩ := Crane.at hX.cr hi
  obtain ⟨b2, off2, p, e2, hp, _, hb2, _, d0, d1, d2, d3, d4, d5, d6⟩ := Crane.at hX.cr hk
  cases e1; cases e2
  have hQ := cv_at hv hq
  have hP := cv_at hv hp
  have pq := craneOk_parts (siteOk_at hok hQ)
  have pp := craneOk_parts (siteOk_at hok hP)
  rw [takesAt_of hQ hP]
  have hj : 1 ≤ q.v.jib ∧ q.v.jib ≤ 1000 := pq.jib
  exact l23Takes_any b b _ _ q p X ⟨c0, c1, c2, c3, c4, c5, c6⟩ ⟨d0, d1, d2, d3, d4, d5, d6⟩ (by omega) (by omega) pq.at_ pp.at_ ⟨by omega, hj.2⟩
theorem DS.next {w : World} {lo n : Nat} {A : Option Addr} {c : Nat} {ps : List Crane} {cs : List CV} {G q b : Nat} {v v' : Value} {xs : List Int} {wr w5 : World} (h : DS w lo n A c ps G (leftN cs n q) v xs wr) (hb : (leftN cs n q)[nextN cs n q]? = some b) (hbn : b < n)
    (hg : Grow ic 1 w5 (G + 1) 2 v' (xs ++ [(b : Int)])) (hb5 : Below (G + 1) (wr.setCell ⟨G, b, none⟩ (.bool true)) w5) : DS w lo n A c ps G (leftN cs n (q + 1)) v' (xs ++ [(b : Int)]) w5 := by
  have hs := h.sG
  have hset : Within G (G + 1) wr (wr.setCell ⟨G, b, none⟩ (.bool true)) := (Within.refl _ _ _).setCell (p := ⟨G, b, none⟩) (Nat.le_refl _) (Nat.lt_succ_self _) _
  obtain ⟨cells, h1, h2, h3⟩ := h.gn
  have hG := h1.lt
  refine ⟨⟨cells.setIfInBounds b (.bool true), (h1.set_ b (.bool true)).below hb5 (Nat.lt_succ_self _), by simpa using h2, fun i hi => ?_⟩, hg, ?_, ?_, ?_, hs⟩
  · by_cases hib : i = b
    · subst hib
      rw [Array.getElem?_setIfInBounds_self_of_lt (by omega), decide_eq_false (fun hm => ((left_step cs n hb i).1 hm).2 rfl)]; rfl
    · rw [Array.getElem?_setIfInBounds_ne (by omega), h3 i hi]
      congr 3
      exact decide_eq_decide.2 ⟨fun hm => (left_step cs n hb i).2 ⟨hm, hib⟩, fun hm => ((left_step cs n hb i).1 hm).1⟩
  · exact ((hset.block _ (by omega) (by omega)).trans h.site |> fun h9 : Blk _ w.heap.size _ _ => h9.below hb5 (by omega))
  · exact (h.cr.below (Below.within (Below.refl _ _) hset (by omega) (by omega))).below (hb5.mono (by omega))
  · exact (Below.within h.bw hset (by omega) (by omega)).trans (hb5.mono (by omega))
/-- the best place among the first k -/
def BestTo (cs : List CV) (l : List Nat) (n k : Nat) (v : Value) : Prop :=
  (v = .int .i64 (-1) ∧ ∀ j, j < k → j ∈ l → helpN cs l j = false) ∨ ∃ b : Nat, v = .int .i64 (b : Int) ∧ b < n ∧ b ∈ l ∧ helpN cs l b = true ∧ ∀ j, j < b → j ∈ l → helpN cs l j = false

set_option maxRecDepth 200000 in
set_option maxHeartbeats 6400000 in
theorem specDismantleOrder_any (s : Row Crane) (cs : List CV) (hv : s.xs.map Crane.val = cs) (w : World) (lo : Nat) (h : Cranes w lo w.heap.size s.a s.n s.xs) (hn : s.n ≤ 1048576) (hp : ∀ p ∈ s.xs, p.wf) :
    Calls Try.prog 8 #[.agg #[.slice s.a s.n s.cap]] w (RetS ic 1 2 (dsXs cs) (dsCode cs) w) := by
  have HV := Lib.hid hv
  have HP := Lib.hid hp
  have HL : Hid (cs.length = s.n) := by show _ = _; rw [cv_len hv, h.len]
  obtain ⟨A, n, c, ps⟩ := s
  dsimp only at *
  obtain ⟨W, hW⟩ : ∃ W : World, W = w.alloc (.cells #[.slice A n c] 31) := ⟨_, rfl⟩
  have B0 : Below w.heap.size w W := by rw [hW]; exact (Below.refl _ _).alloc (Nat.le_refl _) _
  have P0 : Blk W w.heap.size 31 #[.slice A n c] := by rw [hW]; exact Blk.new _ _ _
  have HC := Lib.hid (h.next B0)
  have HC0 := Lib.hid h
  clear h hv hp
  cases h1 : siteOk cs
  · have H1 := Lib.hid h1
    have H : Hid (dsXs cs = [] ∧ dsCode cs = 1) := by show _ ∧ _; unfold dsXs dsCode; rw [h1]; exact ⟨rfl, rfl⟩
    clear h1
    go_enter Try.func8, Try.ntmps8
    go_wp2_with fail
    rw [← hW]
    clear hW
    refine (l04Site_any w.heap.size 0 ⟨A, n, c, ps⟩ cs HV.out _ lo (P0.cell 0) P0.lt HC.out (show n ≤ 1048576 by omega) HP.out).mono ?_
    rintro e w1 ⟨rfl, hb1⟩
    rw [H1.out]
    have B1 := B0.trans (hb1.mono B0.size)
    clear P0 hb1
    go_wp2
    go_ret2
    rw [H.out.1, H.out.2]; exact RetS.nil B1
  · have H1 := Lib.hid h1
    have hn6 := siteOk_len h1
    rw [HL.out] at hn6
    have hn1 : 1 ≤ n := hn6.1
    have hn7 : n ≤ 6 := hn6.2
    have H : Hid (dsXs cs = ints (disTo cs n n).2 ∧ dsCode cs = 0) := by show _ ∧ _; unfold dsXs dsCode; rw [h1, HL.out]; exact ⟨rfl, rfl⟩
    clear h1 hn6
    obtain ⟨i0, hi, hz0, hz1, hz2⟩ := info_parts infoBool
    have hmk := fun W => run_make_rowN (P := Try.prog) 73 4 i0 _ Try.underlying73 hi hz0 .i64 .i64 n n (Nat.le_refl _) (by rw [hz2]; omega) (by omega) W
    rw [hz1] at hmk
    go_enter Try.func8, Try.ntmps8
    go_wp2_with fail
    rw [← hW]
    clear hW
    refine (l04Site_any w.heap.size 0 ⟨A, n, c, ps⟩ cs HV.out _ lo (P0.cell 0) P0.lt HC.out (show n ≤ 1048576 by omega) HP.out).mono ?_
    rintro e w1 ⟨rfl, hb1⟩
    rw [H1.out]
    have B1 := B0.trans (hb1.mono B0.size)
    have P1 := P0.bel hb1
    have HHB1 := Lib.hid hb1
    have c9 : w1.cell? ⟨w.heap.size, 0, none⟩ = some (.slice A n c) := P1.cell 0
    have hlS := P1.lt
    clear P0 hb1
    obtain ⟨G, hG⟩ : ∃ G, G = w1.heap.size := ⟨_, rfl⟩
    obtain ⟨b, off, rfl, _, hbw, _⟩ := HC0.out.1.2 (by omega)
    obtain ⟨w3, hw3⟩ : ∃ W : World, W = (w1.alloc (.cells (madeCells #[Value.bool false] n) 4)).alloc (.cells #[] 2) := ⟨_, rfl⟩
    have hb3 : Below w1.heap.size w1 w3 := by rw [hw3]; exact ((Below.refl _ _).alloc (Nat.le_refl _) _).alloc (by simp) _
    have hGb : Blk w3 G 4 (madeCells #[Value.bool false] n) := by rw [hw3, hG]; exact (Blk.new _ _ _).alloc _
    have HDS : Hid (DS w lo n (some ⟨b, off, none⟩) c ps G (leftN cs n 0) (.slice (some ⟨G + 1, 0, none⟩) 0 0) (ints (disTo cs n 0).2) w3) := by
      refine ⟨⟨_, hGb, by simp [size_madeCells], fun i hi => ?_⟩, ?_, P1.bel hb3, ((HC0.out.below B0).below (HHB1.out.mono B0.size)).below (hb3.mono B1.size), B1.trans (hb3.mono B1.size), by omega⟩
      · have : i ∈ leftN cs n 0 := List.mem_range.2 hi
        rw [decide_eq_true this]
        show (madeCells #[Value.bool false] n)[i]? = _
        rw [← Array.getElem?_toList, toList_madeCells_one, List.getElem?_replicate, if_pos hi]; rfl
      · have h9 := Grow.empty (c := ic) (k := 1) (w1.alloc (.cells (madeCells #[Value.bool false] n) 4)) (G + 1) 2 (by rw [hG]; simp)
        rw [hw3]
        have e9 : (w1.alloc (.cells (madeCells #[Value.bool false] n) 4)).heap.size = G + 1 := by rw [hG]; simp
        rw [e9] at h9
        exact h9
    have HGL : Hid (w3.heap.size = G + 2) := by show _ = _; rw [hw3, hG]; simp
    clear P1 hGb hb3
    go_wp2_with fail
    rw [← hw3, ← hG]
    clear hw3 hG c9 hmk
    go_loopg [5, 6, 7, 8, 9, 10] n (fun gk v x6 x7 x8 x9 x10 wr => ∃ (q : Nat) (A9 : Option Addr) (c9 : Nat), q + gk = n ∧ v = .slice A9 q c9 ∧ DS w lo n (some ⟨b, off, none⟩) c ps G (leftN cs n q) v (ints (disTo cs n q).2) wr)
    case atStart => exact ⟨0, _, _, Nat.zero_add n, rfl, HDS.out⟩
    case round =>
      obtain ⟨q, A9, c9, hq, rfl, hds⟩ := hrel
      have hS : wr.cell? ⟨w.heap.size, 0, none⟩ = some (.slice (some ⟨b, off, none⟩) n c) := hds.site.cell 0
      by_cases hlt : 0 < gk
      · have hqn : (q : Int) < (n : Int) := by omega
        have HDS1 := Lib.hid hds
        clear hds HDS
        have hlq := left_lt cs n q
        have HLQ := Lib.hid hlq
        clear hlq
        go_wp2
        go_loopw [6, 7, 8, 9] (fun x6 x7 x8 x9 wr => ∃ k : Nat, k ≤ n ∧ x7 = .int .i64 k ∧ BestTo cs (leftN cs n q) n k x6 ∧ DS w lo n (some ⟨b, off, none⟩) c ps G (leftN cs n q) (.slice A9 q c9) (ints (disTo cs n q).2) wr) (fun _ k _ _ _ => n - (intOf k).toNat)
        case atStart => exact ⟨0, Nat.zero_le _, rfl, .inl ⟨rfl, fun j hj => absurd hj (by omega)⟩, HDS1.out⟩
        case round =>
          obtain ⟨k, hk, rfl, hbest, hd2⟩ := hrel
          have HB2 := Lib.hid hbest
          have HD2 := Lib.hid hd2
          have hS : wr.cell? ⟨w.heap.size, 0, none⟩ = some (.slice (some ⟨b, off, none⟩) n c) := hd2.site.cell 0
          clear hbest
          by_cases hkn : k < n
          · have hk0 : (0 : Int) ≤ (k : Int) := by omega
            have hk1 : (k : Int) < (n : Int) := by omega
            by_cases hml : k ∈ leftN cs n q
            · have HML := Lib.hid hml
              have gk0 : wr.cell? ⟨G, k, none⟩ = some (.bool false) := by have := hd2.cell hkn; rwa [decide_eq_true hml] at this
              clear hml hd2
              go_wp2
              go_loopw [8, 9] (fun x8 x9 wr => ∃ i : Nat, i ≤ n ∧ x9 = .int .i64 i ∧ x8 = .bool (hlpTo cs (leftN cs n q) k i) ∧ DS w lo n (some ⟨b, off, none⟩) c ps G (leftN cs n q) (.slice A9 q c9) (ints (disTo cs n q).2) wr) (fun _ i _ => n - (intOf i).toNat)
              case atStart => exact ⟨0, Nat.zero_le _, rfl, rfl, HD2.out⟩
              case round =>
                obtain ⟨i, hi, rfl, rfl, hd3⟩ := hrel
                have HD3 := Lib.hid hd3
                have hS : wr.cell? ⟨w.heap.size, 0, none⟩ = some (.slice (some ⟨b, off, none⟩) n c) := hd3.site.cell 0
                by_cases hin : i < n
                · have hi0 : (0 : Int) ≤ (i : Int) := by omega
                  have hi1 : (i : Int) < (n : Int) := by omega
                  have u9 := cell_regrown hS
                  have HSTP := Lib.hid (hlpTo_step cs (leftN cs n q) k i)
                  obtain ⟨hv8, h8⟩ : ∃ x, hlpTo cs (leftN cs n q) k i = x := ⟨_, rfl⟩
                  have H8 := Lib.hid h8
                  rw [h8]
                  clear h8
                  cases hv8
                  · by_cases hmi : i ∈ leftN cs n q
                    · have g9 := cell_regrown (show wr.cell? ⟨G, i, none⟩ = some (.bool false) by have := hd3.cell hin; rwa [decide_eq_true hmi] at this)
                      by_cases hik : i = k
                      · have HST : Hid (hlpTo cs (leftN cs n q) k (i + 1) = false) := by show _ = _; rw [HSTP.out, H8.out, decide_eq_true hik]; simp
                        subst hik
                        clear hd3 hmi
                        go_wp2
                        refine wp_region_quiet_below (by kernel_rfl) (by kernel_rfl) ?_
                        repeat (go_big_quiet_step (fail))
                        refine wpQuiet_nil ?_
                        intro _ hw9
                        obtain ⟨⟨dq, osq⟩, hw9⟩ := hw9
                        subst hw9
                        have hb9 := below_regrown wr dq osq
                        dsimp only at hb9 ⊢
                        clear u9 g9
                        generalize grow (redrawn wr dq) osq = W2 at hb9 ⊢
                        have HD9 := Lib.hid (HD3.out.bel hb9)
                        clear hb9
                        go_wp2
                        go_roundw
                        case rel => exact ⟨i + 1, by omega, by go_num, by rw [HST.out], HD9.out⟩
                        case measure => simp [intOf]; omega
                      · cases ht : takesAt cs i k
                        · have HST : Hid (hlpTo cs (leftN cs n q) k (i + 1) = false) := by show _ = _; rw [HSTP.out, H8.out, ht]; simp
                          have hne : ((i : Int) != (k : Int)) = true := bne_iff_ne.2 (by omega)
                          have HF : Hid (∀ d os, Calls Try.prog 35 #[.pointer (some ⟨b, off + i * 7, none⟩), .pointer (some ⟨b, off + k * 7, none⟩)] (grow (redrawn wr d) os) fun e w' => e = .returned (.bool false) ∧ Below (grow (redrawn wr d) os).heap.size (grow (redrawn wr d) os) w') := fun d os => by
                            have := HD3.out.takes HV.out H1.out hin hkn (below_regrown wr d os); rwa [ht] at this
                          clear hd3 hmi hik ht
                          go_wp2
                          refine wp_region_quiet_below (by kernel_rfl) (by kernel_rfl) ?_
                          repeat (go_big_quiet_step ((go_at_call 35; exact Calls.regrown_of (HF.out _ _))))
                          refine wpQuiet_nil ?_
                          intro _ hw9
                          obtain ⟨⟨dq, osq⟩, hw9⟩ := hw9
                          subst hw9
                          have hb9 := below_regrown wr dq osq
                          dsimp only at hb9 ⊢
                          clear u9 g9 HF hne
                          generalize grow (redrawn wr dq) osq = W2 at hb9 ⊢
                          have HD9 := Lib.hid (HD3.out.bel hb9)
                          clear hb9
                          go_wp2
                          go_roundw
                          case rel => exact ⟨i + 1, by omega, by go_num, by rw [HST.out], HD9.out⟩
                          case measure => simp [intOf]; omega
                        · have HST : Hid (hlpTo cs (leftN cs n q) k (i + 1) = true) := by show _ = _; rw [HSTP.out, H8.out, ht, decide_eq_true hmi, decide_eq_false hik]; rfl
                          have hne : ((i : Int) != (k : Int)) = true := bne_iff_ne.2 (by omega)
                          have HF : Hid (∀ d os, Calls Try.prog 35 #[.pointer (some ⟨b, off + i * 7, none⟩), .pointer (some ⟨b, off + k * 7, none⟩)] (grow (redrawn wr d) os) fun e w' => e = .returned (.bool true) ∧ Below (grow (redrawn wr d) os).heap.size (grow (redrawn wr d) os) w') := fun d os => by
                            have := HD3.out.takes HV.out H1.out hin hkn (below_regrown wr d os); rwa [ht] at this
                          clear hd3 hmi hik ht
                          go_wp2
                          refine wp_region_quiet_below (by kernel_rfl) (by kernel_rfl) ?_
                          repeat (go_big_quiet_step ((go_at_call 35; exact Calls.regrown_of (HF.out _ _))))
                          refine wpQuiet_nil ?_
                          intro _ hw9
                          obtain ⟨⟨dq, osq⟩, hw9⟩ := hw9
                          subst hw9
                          have hb9 := below_regrown wr dq osq
                          dsimp only at hb9 ⊢
                          clear u9 g9 HF hne
                          generalize grow (redrawn wr dq) osq = W2 at hb9 ⊢
                          have HD9 := Lib.hid (HD3.out.bel hb9)
                          clear hb9
                          go_wp2
                          go_roundw
                          case rel => exact ⟨i + 1, by omega, by go_num, by rw [HST.out], HD9.out⟩
                          case measure => simp [intOf]; omega
                    · have g9 := cell_regrown (show wr.cell? ⟨G, i, none⟩ = some (.bool true) by have := hd3.cell hin; rwa [decide_eq_false hmi] at this)
                      have HST : Hid (hlpTo cs (leftN cs n q) k (i + 1) = false) := by show _ = _; rw [HSTP.out, H8.out, decide_eq_false hmi]; rfl
                      clear hd3 hmi
                      go_wp2
                      refine wp_region_quiet_below (by kernel_rfl) (by kernel_rfl) ?_
                      repeat (go_big_quiet_step (fail))
                      refine wpQuiet_nil ?_
                      intro _ hw9
                      obtain ⟨⟨dq, osq⟩, hw9⟩ := hw9
                      subst hw9
                      have hb9 := below_regrown wr dq osq
                      dsimp only at hb9 ⊢
                      clear u9 g9
                      generalize grow (redrawn wr dq) osq = W2 at hb9 ⊢
                      have HD9 := Lib.hid (HD3.out.bel hb9)
                      clear hb9
                      go_wp2
                      go_roundw
                      case rel => exact ⟨i + 1, by omega, by go_num, by rw [HST.out], HD9.out⟩
                      case measure => simp [intOf]; omega
                  · have g9 := True.intro
                    have HST : Hid (hlpTo cs (leftN cs n q) k (i + 1) = true) := by show _ = _; rw [HSTP.out, H8.out]; rfl
                    clear hd3
                    go_wp2
                    refine wp_region_quiet_below (by kernel_rfl) (by kernel_rfl) ?_
                    repeat (go_big_quiet_step (fail))
                    refine wpQuiet_nil ?_
                    intro _ hw9
                    obtain ⟨⟨dq, osq⟩, hw9⟩ := hw9
                    subst hw9
                    have hb9 := below_regrown wr dq osq
                    dsimp only at hb9 ⊢
                    clear u9 g9
                    generalize grow (redrawn wr dq) osq = W2 at hb9 ⊢
                    have HD9 := Lib.hid (HD3.out.bel hb9)
                    clear hb9
                    go_wp2
                    go_roundw
                    case rel => exact ⟨i + 1, by omega, by go_num, by rw [HST.out], HD9.out⟩
                    case measure => simp [intOf]; omega
                · obtain rfl : n = i := by omega
                  have hend := hlpTo_end (cs := cs) (k := k) HLQ.out
                  rw [hend]
                  clear hend hd3
                  obtain ⟨hv8, h8⟩ : ∃ x, helpN cs (leftN cs n q) k = x := ⟨_, rfl⟩
                  have H8 := Lib.hid h8
                  rw [h8]
                  clear h8
                  cases hv8
                  · have HB3 : Hid (BestTo cs (leftN cs n q) n (k + 1) u6) := by
                      rcases HB2.out with ⟨e, h9⟩ | ⟨b9, e, h9⟩
                      · exact .inl ⟨e, fun j hj hm => by
                          by_cases hjk : j = k
                          · subst hjk; exact H8.out
                          · exact h9 j (by omega) hm⟩
                      · exact .inr ⟨b9, e, h9⟩
                    go_wp2
                    go_roundw
                    case rel => exact ⟨k + 1, by omega, by go_num, HB3.out, HD3.out⟩
                    case measure => simp [intOf]; omega
                  · rcases HB2.out with ⟨rfl, h9⟩ | ⟨b9, rfl, h9⟩
                    · have HB3 : Hid (BestTo cs (leftN cs n q) n (k + 1) (.int .i64 (k : Int))) := .inr ⟨k, rfl, hkn, HML.out, H8.out, h9⟩
                      clear h9
                      go_wp2
                      go_roundw
                      case rel => exact ⟨k + 1, by omega, by go_num, HB3.out, HD3.out⟩
                      case measure => simp [intOf]; omega
                    · have HB3 : Hid (BestTo cs (leftN cs n q) n (k + 1) (.int .i64 (b9 : Int))) := .inr ⟨b9, rfl, h9⟩
                      clear h9
                      have hb90 : (0 : Int) ≤ (b9 : Int) := by omega
                      go_wp2
                      go_roundw
                      case rel => exact ⟨k + 1, by omega, by go_num, HB3.out, HD3.out⟩
                      case measure => simp [intOf]; omega
            · have gk0 : wr.cell? ⟨G, k, none⟩ = some (.bool true) := by have := hd2.cell hkn; rwa [decide_eq_false hml] at this
              have HB3 : Hid (BestTo cs (leftN cs n q) n (k + 1) u6) := by
                rcases HB2.out with ⟨e, h9⟩ | ⟨b9, e, h9⟩
                · exact .inl ⟨e, fun j hj hm => by
                    by_cases hjk : j = k
                    · subst hjk; exact absurd hm hml
                    · exact h9 j (by omega) hm⟩
                · exact .inr ⟨b9, e, h9⟩
              clear hml hd2
              go_wp2
              go_roundw
              case rel => exact ⟨k + 1, by omega, by go_num, HB3.out, HD2.out⟩
              case measure => simp [intOf]; omega
          · obtain rfl : n = k := by omega
            clear hd2
            have hlen : (leftN cs n q).length = gk := by rw [left_len cs n q (by omega)]; omega
            have HLEN := Lib.hid hlen
            clear hlen
            go_wp2
            go_loopw [6, 10] (fun x6 x10 wr => ∃ t : Nat, t ≤ n ∧ x10 = .int .i64 t ∧ ((x6 = .int .i64 (-1) ∧ (∀ j, j < n → j ∈ leftN cs n q → helpN cs (leftN cs n q) j = false) ∧ ∀ j, j < t → ¬ j ∈ leftN cs n q) ∨ ∃ b9 : Nat, x6 = .int .i64 (b9 : Int) ∧ b9 < n ∧ (leftN cs n q)[nextN cs n q]? = some b9) ∧ DS w lo n (some ⟨b, off, none⟩) c ps G (leftN cs n q) (.slice A9 q c9) (ints (disTo cs n q).2) wr) (fun _ t _ => n - (intOf t).toNat)
            case atStart =>
              refine ⟨0, Nat.zero_le _, rfl, ?_, HD2.out⟩
              rcases HB2.out with ⟨e, h9⟩ | ⟨b9, e, h1, h2, h3, h4⟩
              · exact .inl ⟨e, h9, fun j hj => absurd hj (by omega)⟩
              · exact .inr ⟨b9, e, h1, pick_hit (left_inc cs n q) h2 h3 h4⟩
            case round =>
              obtain ⟨t, ht, rfl, hp4, hd4⟩ := hrel
              have HD4 := Lib.hid hd4
              have hS : wr.cell? ⟨w.heap.size, 0, none⟩ = some (.slice (some ⟨b, off, none⟩) n c) := hd4.site.cell 0
              have ht0 : (0 : Int) ≤ (t : Int) := by omega
              rcases hp4 with ⟨rfl, h8, h9⟩ | ⟨b9, rfl, hbn, hbq⟩
              · by_cases htn : t < n
                · have ht1 : (t : Int) < (n : Int) := by omega
                  by_cases hm : t ∈ leftN cs n q
                  · have gk0 : wr.cell? ⟨G, t, none⟩ = some (.bool false) := by have := hd4.cell htn; rwa [decide_eq_true hm] at this
                    have HP4 : Hid ((leftN cs n q)[nextN cs n q]? = some t) := pick_none (left_inc cs n q) (fun j hj => h8 j (HLQ.out j hj) hj) hm h9
                    clear hd4 h8 h9 hm
                    go_wp2
                    go_roundw
                    case rel => exact ⟨t + 1, by omega, by go_num, .inr ⟨t, rfl, htn, HP4.out⟩, HD4.out⟩
                    case measure => simp [intOf]; omega
                  · have gk0 : wr.cell? ⟨G, t, none⟩ = some (.bool true) := by have := hd4.cell htn; rwa [decide_eq_false hm] at this
                    have H8 := Lib.hid h8
                    have H9 : Hid (∀ j, j < t + 1 → ¬ j ∈ leftN cs n q) := fun j hj hjm => by
                      by_cases hjt : j = t
                      · subst hjt; exact hm hjm
                      · exact h9 j (by omega) hjm
                    clear hd4 h8 h9 hm
                    go_wp2
                    go_roundw
                    case rel => exact ⟨t + 1, by omega, by go_num, .inl ⟨rfl, H8.out, H9.out⟩, HD4.out⟩
                    case measure => simp [intOf]; omega
                · exfalso
                  have hj := List.getElem?_eq_getElem (l := leftN cs n q) (i := 0) (by rw [HLEN.out]; exact hlt)
                  have hm := List.mem_of_getElem? hj
                  exact h9 _ (by have := HLQ.out _ hm; omega) hm
              · have HBQ := Lib.hid hbq
                have hbm : b9 ∈ leftN cs n q := List.mem_of_getElem? hbq
                clear hd4 hbq
                by_cases htn : t < n
                · have ht1 : (t : Int) < (n : Int) := by omega
                  have hb0 : (0 : Int) ≤ (b9 : Int) := by omega
                  have hb1 : (b9 : Int) < (n : Int) := by omega
                  have gb : wr.cell? ⟨G, b9, none⟩ = some (.bool false) := by have := HD4.out.cell hbn; rwa [decide_eq_true hbm] at this
                  have gf : wr.frozen? ⟨G, b9, none⟩ = false := by obtain ⟨cells, h1, _⟩ := HD4.out.gn; exact h1.frozen b9
                  have hGl := HD4.out.lt
                  have HG4 : Hid (Grow ic 1 (wr.setCell ⟨G, b9, none⟩ (.bool true)) (G + 1) 2 (.slice A9 q c9) (ints (disTo cs n q).2)) := HD4.out.gr.keep (fun x h1 h2 => ((Within.refl G (G + 1) wr).setCell (p := ⟨G, b9, none⟩) (Nat.le_refl _) (Nat.lt_succ_self _) (.bool true)).block x h2 (by omega))
                  have hll : (ints (disTo cs n q).2).length ≤ q := Nat.le_of_eq (by rw [ints_len, taken_len])
                  have HTS : Hid (ints (disTo cs n (q + 1)).2 = ints (disTo cs n q).2 ++ [(b9 : Int)]) := by show _ = _; rw [taken_step cs n HBQ.out, ints_snoc]
                  have HBN := Lib.hid hbn
                  clear hbn hbm
                  go_wp2_with ((at_builtin; refine wpList_snoc _ rfl _ _ 26 rfl (G + 1) 2 (.int .i64 0) 8 Try.underlying26 infoInt rfl (by omega) _ _ (((b9 : Nat) : Int)) rfl (HG4.out.alloc _) _ _ rfl (dheap_new_at _ _ (by simp)) rfl rfl (ic_one _) (by omega) (by omega) (by simp; omega) ?_; intro v5 w5 hg5 hgr5))
                  go_roundg (gk - 1)
                  case measure => omega
                  case rel =>
                    have hb5 : Below (G + 1) (wr.setCell ⟨G, b9, none⟩ (.bool true)) w5 := (HG4.out.alloc _).below ((Below.refl _ _).alloc (by simp; omega) _) hgr5 (Nat.le_refl _) (by simp; omega)
                    have hd5 := HD4.out.next HBQ.out HBN.out hg5 hb5
                    obtain ⟨A5, c5, e5, _⟩ := hg5.own ic_len
                    rw [← HTS.out] at hd5 e5
                    exact ⟨q + 1, A5, c5, by omega, by rw [e5, ints_len, taken_len], hd5⟩
                · have ht1 : ¬ (t : Int) < (n : Int) := by omega
                  obtain rfl : n = t := by omega
                  have hb0 : (0 : Int) ≤ (b9 : Int) := by omega
                  have hb1 : (b9 : Int) < (n : Int) := by omega
                  have gb : wr.cell? ⟨G, b9, none⟩ = some (.bool false) := by have := HD4.out.cell hbn; rwa [decide_eq_true hbm] at this
                  have gf : wr.frozen? ⟨G, b9, none⟩ = false := by obtain ⟨cells, h1, _⟩ := HD4.out.gn; exact h1.frozen b9
                  have hGl := HD4.out.lt
                  have HG4 : Hid (Grow ic 1 (wr.setCell ⟨G, b9, none⟩ (.bool true)) (G + 1) 2 (.slice A9 q c9) (ints (disTo cs n q).2)) := HD4.out.gr.keep (fun x h1 h2 => ((Within.refl G (G + 1) wr).setCell (p := ⟨G, b9, none⟩) (Nat.le_refl _) (Nat.lt_succ_self _) (.bool true)).block x h2 (by omega))
                  have hll : (ints (disTo cs n q).2).length ≤ q := Nat.le_of_eq (by rw [ints_len, taken_len])
                  have HTS : Hid (ints (disTo cs n (q + 1)).2 = ints (disTo cs n q).2 ++ [(b9 : Int)]) := by show _ = _; rw [taken_step cs n HBQ.out, ints_snoc]
                  have HBN := Lib.hid hbn
                  clear hbn hbm
                  go_wp2_with ((at_builtin; refine wpList_snoc _ rfl _ _ 26 rfl (G + 1) 2 (.int .i64 0) 8 Try.underlying26 infoInt rfl (by omega) _ _ (((b9 : Nat) : Int)) rfl (HG4.out.alloc _) _ _ rfl (dheap_new_at _ _ (by simp)) rfl rfl (ic_one _) (by omega) (by omega) (by simp; omega) ?_; intro v5 w5 hg5 hgr5))
                  go_roundg (gk - 1)
                  case measure => omega
                  case rel =>
                    have hb5 : Below (G + 1) (wr.setCell ⟨G, b9, none⟩ (.bool true)) w5 := (HG4.out.alloc _).below ((Below.refl _ _).alloc (by simp; omega) _) hgr5 (Nat.le_refl _) (by simp; omega)
                    have hd5 := HD4.out.next HBQ.out HBN.out hg5 hb5
                    obtain ⟨A5, c5, e5, _⟩ := hg5.own ic_len
                    rw [← HTS.out] at hd5 e5
                    exact ⟨q + 1, A5, c5, by omega, by rw [e5, ints_len, taken_len], hd5⟩
      · obtain rfl : gk = 0 := by omega
        obtain rfl : q = n := by omega
        have HB9 := Lib.hid hds
        have hlen : (ints (disTo cs q q).2).length = q := by rw [ints_len, taken_len]
        go_wp2
        go_ret2
        rw [H.out.1, H.out.2]
        exact Grow.rets ⟨HB9.out.gr.1, HB9.out.gr.2.imp id (fun ⟨g9, c9, cur, h1, h2, h3⟩ => ⟨g9, c9, cur, h1, by have := HB9.out.sG; omega, h3⟩)⟩ ic_len HB9.out.bw
end Go.Proofs.Ytencnldflnbdiaa
