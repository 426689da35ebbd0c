/- Made by merge.py of XWk4, XWk5. -/
import Derived.Test.YtnidnmbicnhflaaBest
import Derived.Test.YtnidnmbicnhflaaLifts3
import Derived.Test.YtnidnmbicnhflaaDrawLifts
import Derived.Test.YtnidnmbicnhflaaOwnAt
/- XWk4: possible and ImpossibleLifts of the program: whether some crane of a site can do a lift. -/
namespace Go.Proofs.Ytnidnmbicnhflaa
open Go.RowKit Go.Shelf
set_option linter.unusedVariables false
attribute [local go_sem] Oper.semAt_some

theorem ableTo_ne {cs : List CV} {v : LiftV} {k : Nat} (h : ableTo cs v k ≠ []) : ∀ m, k ≤ m → ableTo cs v m ≠ [] := by
  intro m hm
  obtain ⟨d, rfl⟩ : ∃ d, m = k + d := ⟨m - k, by omega⟩
  clear hm
  induction d with
  | zero => exact h
  | succ d ih =>
    intro e
    unfold ableTo at e ih
    rw [show k + (d + 1) = (k + d) + 1 by omega, List.range_succ, List.filter_append, List.map_append] at e
    exact ih (List.append_eq_nil_iff.1 e).1
/-- whether some crane of the first n can do the lift -/
def posB (cs : List CV) (v : LiftV) (n : Nat) : Bool := !(ableTo cs v n).isEmpty
theorem posB_no {cs : List CV} {v : LiftV} {n : Nat} (h : ableTo cs v n = []) : posB cs v n = false := by unfold posB; rw [h]; rfl
theorem posB_yes {cs : List CV} {v : LiftV} {n : Nat} (h : ableTo cs v n ≠ []) : posB cs v n = true := by
  unfold posB
  cases e : ableTo cs v n with
  | nil => exact absurd e h
  | cons a l => rfl
set_option maxRecDepth 100000 in
set_option maxHeartbeats 3200000 in
theorem possible_any2 (s : Row Crane) (cs : List CV) (hv : s.xs.map Crane.val = cs) (l : Lift) (w : World) (lo : Nat) (h : Cranes w lo w.heap.size s.a s.n s.xs) (hn1 : s.n ≤ 1048576) (hp : ∀ p ∈ s.xs, p.wf) (hq : l.v.name.size ≤ 9223372036854775807) (h1 : siteOk cs = true) (h2 : plainB l.v = true) :
    Calls Try.prog 29 #[.agg #[.slice s.a s.n s.cap], .agg #[.string l.v.name, .int .i64 l.v.weight, .int .i64 l.v.fx, .int .i64 l.v.fy, .int .i64 l.v.tx, .int .i64 l.v.ty, .int .i64 l.v.height, .int .i64 l.v.deadline, .slice l.r.a l.r.n l.r.cap]] w fun e w' => e = .returned (.bool (posB cs l.v s.n)) ∧ Below w.heap.size w w' := by
  have HV := Lib.hid hv
  have HP := Lib.hid hp
  obtain ⟨A, n, c, ps⟩ := s
  dsimp only at *
  obtain ⟨W, hW⟩ : ∃ W : World, W = ((w.alloc (.cells #[.slice A n c] 26)).alloc (.cells #[.string l.v.name, .int .i64 l.v.weight, .int .i64 l.v.fx, .int .i64 l.v.fy, .int .i64 l.v.tx, .int .i64 l.v.ty, .int .i64 l.v.height, .int .i64 l.v.deadline, .slice l.r.a l.r.n l.r.cap] 40)).alloc (.cells #[.bool false] 4) := ⟨_, rfl⟩
  have B0 : Below w.heap.size w W := by rw [hW]; exact (((Below.refl _ _).alloc (Nat.le_refl _) _).alloc (by simp) _).alloc (by simp; omega) _
  have P0 : Blk W w.heap.size 26 #[.slice A n c] := by rw [hW]; exact ((Blk.new _ _ _).alloc _).alloc _
  have Q0 : Blk W (w.heap.size + 1) 40 #[.string l.v.name, .int .i64 l.v.weight, .int .i64 l.v.fx, .int .i64 l.v.fy, .int .i64 l.v.tx, .int .i64 l.v.ty, .int .i64 l.v.height, .int .i64 l.v.deadline, .slice l.r.a l.r.n l.r.cap] := by rw [hW]; exact (Blk.new_at rfl (by simp)).alloc _
  have bF : Boxed W (w.heap.size + 2) 4 (.bool false) := by
    rw [hW]
    have := Boxed.new ((w.alloc (.cells #[.slice A n c] 26)).alloc (.cells #[.string l.v.name, .int .i64 l.v.weight, .int .i64 l.v.fx, .int .i64 l.v.fy, .int .i64 l.v.tx, .int .i64 l.v.ty, .int .i64 l.v.height, .int .i64 l.v.deadline, .slice l.r.a l.r.n l.r.cap] 40)) 4 (.bool false)
    rw [World.size_alloc, World.size_alloc] at this
    exact this
  have hsW : W.heap.size = w.heap.size + 3 := by rw [hW]; simp
  have HC := Lib.hid h
  clear h hv hp
  have H1 := Lib.hid h1
  have H2 := Lib.hid h2
  clear h1 h2
  refine (callsIn_wide (n := 5)).1 ?_
  have hro : Fence.wide.round = none := rfl
  refine callsIn_of_wp_marks Try.func29 rfl trivial ?_ hro
  simp only [Try.ntmps29, List.size_toArray, List.length_cons, List.length_nil, Nat.reduceAdd, Nat.reduceSub, Array.replicate_succ, Array.replicate_zero, List.push_toArray, List.append_toArray, List.nil_append, List.cons_append]
  gi_wp2_with fail
  rw [← hW]
  clear hW
  have c9 : W.cell? ⟨w.heap.size, 0, none⟩ = some (.slice A n c) := P0.cell 0
  obtain ⟨d0, d1, d2, d3, d4, d5, d6, d7, d8⟩ := Lift.blk Q0
  gi_wp2_with fail
  refine ⟨trivial, ?_⟩
  refine (ables_in _ A n c l _).mono ?_
  rintro e w4 ⟨rfl, hw4⟩
  have hb4 : Below W.heap.size W w4 := by rw [hw4]; exact ((Below.refl _ _).alloc (Nat.le_refl _) _).alloc (by simp) _
  have P4 : Blk w4 W.heap.size 26 #[.slice A n c] := by rw [hw4]; exact (Blk.new _ _ _).alloc _
  have Q4 : Blk w4 (W.heap.size + 1) 40 #[.string l.v.name, .int .i64 l.v.weight, .int .i64 l.v.fx, .int .i64 l.v.fy, .int .i64 l.v.tx, .int .i64 l.v.ty, .int .i64 l.v.height, .int .i64 l.v.deadline, .slice l.r.a l.r.n l.r.cap] := by rw [hw4]; exact Blk.new_at rfl (by simp)
  have hs4 : w4.heap.size = W.heap.size + 2 := by rw [hw4]; simp
  have bF4 : Boxed w4 (w.heap.size + 2) 4 (.bool false) := by rw [hw4]; exact (bF.alloc _).alloc _
  clear hw4 bF c9 d0 d1 d2 d3 d4 d5 d6 d7 d8 P0 Q0
  obtain ⟨G, hG⟩ : ∃ G, w.heap.size + 2 = G := ⟨_, rfl⟩
  have B4 : Below w.heap.size w w4 := B0.trans (hb4.mono B0.size)
  have HC4 : Hid (Cranes w4 lo G A n ps) := (HC.out.below B4).more (by omega)
  have hWG : W.heap.size = G + 1 := by omega
  have hLA := LiftAt.blk Q4
  have hBs4 : w4.cell? ⟨W.heap.size, 0, none⟩ = some (.slice A n c) := P4.cell 0
  rw [hWG] at hLA hBs4 hs4 ⊢
  rw [hG] at bF4 ⊢
  clear B0 P4 Q4 hb4
  have hGw : w.heap.size ≤ G := by omega
  gi_wp2_with fail
  refine wpIn_rangeFunc_ownH hro (by omega : 1 ≤ 5) (gf := 58) (lb := #[.pointer (some ⟨G + 1, 0, none⟩), .pointer (some ⟨G + 1 + 1, 0, none⟩)]) rfl trivial (enters_of Try.func58 (by kernel_rfl) rfl)
    (ables_stops (5 - 1) (by omega) (G + 1) (G + 1 + 1) G lo A n c ps cs HV.out l hn1 HP.out hq H1.out H2.out w4 hBs4 (by omega) hLA (by omega) (by omega) HC4.out)
    (fun h k => h.trans k) (fun W l o o' hl ho hc hw => ⟨belowK_b (by omega) W l o o' hl ho hc hw, (grownBy_putObj' W l o').block _ (by have := (Array.getElem?_eq_some_iff.1 ho).1; omega) (fun e => by cases e; omega)⟩) (Below.refl _ _) (fun _ => rfl)
    (fun pre W => (pre = [] ∧ Boxed W G 4 (.bool false)) ∧ Below G w4 W)
    (fun c pre W => (c = .ret ∧ pre ≠ [] ∧ Boxed W G 4 (.bool true)) ∧ Below G w4 W)
    (OwnFrom.and (Own.from (fun s A B row hs hg hr => ⟨hs.1, boxed_own G 4 (fun _ => .bool false) s A B row hs.2 hg hr⟩) _) (ownFrom_below (by omega) (by omega)))
    (fun c => OwnFrom.and (Own.from (fun s A B row hs hg hr => ⟨hs.1, hs.2.1, boxed_own G 4 (fun _ => .bool true) s A B row hs.2.2 hg hr⟩) _) (ownFrom_below (by omega) (by omega)))
    ⟨⟨rfl, bF4⟩, Below.refl _ _⟩
    (fun x a' W => a' = { tmps := #[.agg #[.slice A n c], .agg #[.string l.v.name, .int .i64 l.v.weight, .int .i64 l.v.fx, .int .i64 l.v.fy, .int .i64 l.v.tx, .int .i64 l.v.ty, .int .i64 l.v.height, .int .i64 l.v.deadline, .slice l.r.a l.r.n l.r.cap], .pointer (some ⟨w.heap.size, 0, none⟩), .pointer (some ⟨w.heap.size + 1, 0, none⟩), .pointer (some ⟨G, 0, none⟩), .agg #[.slice A n c], .agg #[.string l.v.name, .int .i64 l.v.weight, .int .i64 l.v.fx, .int .i64 l.v.fy, .int .i64 l.v.tx, .int .i64 l.v.ty, .int .i64 l.v.height, .int .i64 l.v.deadline, .slice l.r.a l.r.n l.r.cap], .func (.func 58) #[] #[.pointer (some ⟨G + 1, 0, none⟩), .pointer (some ⟨G + 1 + 1, 0, none⟩)], .int .i64 (x.1 : Int)], defers := [] })
    (fun x a' _ X Y row hs hg hr => hs)
    ?assign ?body ?done ?stop
  case assign =>
    rintro l' pre x W K ⟨⟨hpre, bF⟩, hB⟩ hK
    gi_wp2
    exact hK _ _ (KeepsFrom.refl _ _) ⟨Below.refl _ _, rfl⟩ ⟨⟨hpre, bF⟩, hB⟩ (by simp)
  case body =>
    rintro l' pre x a' W hlr ⟨r, hr⟩ ⟨⟨hpre, bF⟩, hB⟩ rfl hlt
    have c0 := bF.cell
    have f0 := bF.frozen
    have HBF := Lib.hid bF
    have HB := Lib.hid hB
    clear bF hB hr
    gi_wp2
    exact ⟨(KeepsOthers.setCell _ _ _).from _, ⟨rfl, by simp, HBF.out.set _⟩, HB.out.setCell (p := ⟨G, 0, none⟩) (Nat.le_refl _) _⟩
  case done =>
    rintro D ys W hD rfl ⟨⟨hpre, bF⟩, hB⟩ hK
    have hE : ableTo cs l.v n = [] := by rw [← abSub_ints cs l.v n n (Nat.le_refl _), hpre]; rfl
    have HE := Lib.hid hE
    have c0 := bF.cell
    have f0 := bF.frozen
    have HBF := Lib.hid bF
    have HB := Lib.hid hB
    have HK := Lib.hid hK
    have HB4 := Lib.hid B4
    clear bF hB hK hE hpre
    gi_wp2
    have hK' := (KeepsOthers.setCell W ⟨G, 0, none⟩ (.bool false)).same D _ HK.out rfl
    refine ⟨by simp, .inl ⟨_, _, rfl, run_takeDeferred hK', ?_⟩⟩
    have hc5 := cell_kept (HBF.out.set (.bool false)).cell (grownBy_putObj' _ D (.deferred none)) (fun r e => by cases e; exact ⟨_, hK', rfl⟩)
    refine ⟨.bool false, ?_, by rw [posB_no HE.out], ?_⟩
    · simp [results, Try.results29, go_sem, hc5]
    · exact (HB4.out.trans ((HB.out.setCell (p := ⟨G, 0, none⟩) (Nat.le_refl _) (.bool false)).mono hGw)).trans (belowK_b (w := w) (Nat.le_refl _) _ D _ (.deferred none) (by omega) hK' rfl rfl)
  case stop =>
    rintro D c pre W hD ⟨k, hk, rfl⟩ ⟨⟨rfl, hne, bF⟩, hB⟩ hK
    have hE : ableTo cs l.v n ≠ [] := by
      refine ableTo_ne (k := k) ?_ n hk
      intro e
      rw [← abSub_ints cs l.v n k hk] at e
      exact hne (List.map_eq_nil_iff.1 e)
    have HE := Lib.hid hE
    have HBF := Lib.hid bF
    have HB := Lib.hid hB
    have HK := Lib.hid hK
    have HB4 := Lib.hid B4
    clear bF hB hK hE hne
    gi_wp2
    refine ⟨by simp, .inl ⟨_, _, rfl, run_takeDeferred HK.out, ?_⟩⟩
    have hc5 := cell_kept HBF.out.cell (grownBy_putObj' _ D (.deferred none)) (fun r e => by cases e; exact ⟨_, HK.out, rfl⟩)
    refine ⟨.bool true, ?_, by rw [posB_yes HE.out], ?_⟩
    · simp [results, Try.results29, go_sem, hc5]
    · exact (HB4.out.trans (HB.out.mono hGw)).trans (belowK_b (w := w) (Nat.le_refl _) _ D _ (.deferred none) (by omega) HK.out rfl rfl)
/-- the places below k of the lifts that no crane can do -/
def imAt (cs : List CV) (ls : List Lift) (n : Nat) (j : Nat) : Bool := match ls[j]? with | some p => !posB cs p.v n | none => false
def imTo (cs : List CV) (ls : List Lift) (n k : Nat) : List Int := ((List.range k).filter (imAt cs ls n)).map fun j : Nat => (j : Int)
theorem imTo_yes {cs : List CV} {ls : List Lift} {n k : Nat} {p : Lift} (hp : ls[k]? = some p) (h : posB cs p.v n = false) : imTo cs ls n (k + 1) = imTo cs ls n k ++ [(k : Int)] := by
  have e : imAt cs ls n k = true := by simp only [imAt, hp, h, Bool.not_false]
  unfold imTo
  rw [List.range_succ, List.filter_append, List.map_append]
  simp [e]
theorem imTo_no {cs : List CV} {ls : List Lift} {n k : Nat} {p : Lift} (hp : ls[k]? = some p) (h : posB cs p.v n = true) : imTo cs ls n (k + 1) = imTo cs ls n k := by
  have e : imAt cs ls n k = false := by simp only [imAt, hp, h, Bool.not_true]
  unfold imTo
  rw [List.range_succ, List.filter_append, List.map_append]
  simp [e]
theorem imTo_len (cs : List CV) (ls : List Lift) (n k : Nat) : (imTo cs ls n k).length ≤ k := by
  unfold imTo; rw [List.length_map]; exact Nat.le_trans (List.length_filter_le _ _) (by simp)
theorem possible_eq (s : Row Crane) (cs : List CV) (hv : s.xs.map Crane.val = cs) (l : Lift) (w : World) (lo : Nat) (h : Cranes w lo w.heap.size s.a s.n s.xs) (hn1 : s.n ≤ 1048576) (hp : ∀ p ∈ s.xs, p.wf) (hq : l.v.name.size ≤ 9223372036854775807) (h1 : siteOk cs = true) (h2 : plainB l.v = true) {r : Bool} (hr : posB cs l.v s.n = r) :
    Calls Try.prog 29 #[.agg #[.slice s.a s.n s.cap], .agg #[.string l.v.name, .int .i64 l.v.weight, .int .i64 l.v.fx, .int .i64 l.v.fy, .int .i64 l.v.tx, .int .i64 l.v.ty, .int .i64 l.v.height, .int .i64 l.v.deadline, .slice l.r.a l.r.n l.r.cap]] w fun e w' => e = .returned (.bool r) ∧ Below w.heap.size w w' := by
  rw [← hr]; exact possible_any2 s cs hv l w lo h hn1 hp hq h1 h2
set_option maxRecDepth 100000 in
set_option maxHeartbeats 3200000 in
theorem impossibleLifts_any (s : Row Crane) (cs : List CV) (hv : s.xs.map Crane.val = cs) (A2 : Option Addr) (m c2 : Nat) (ls : List Lift) (w : World) (lo : Nat) (h : Cranes w lo w.heap.size s.a s.n s.xs) (hc : s.n ≤ s.cap) (hn1 : s.n ≤ 1048576) (hc3 : s.cap ≤ 9223372036854775807) (hp : ∀ p ∈ s.xs, p.wf) (hl : Lifts w lo w.heap.size A2 m ls) (hm : m ≤ 1048576) (hlw : ∀ p ∈ ls, p.wf) (h1 : siteOk cs = true) (h2 : liftsOk (ls.map Lift.val) = true) :
    Calls Try.prog 8 #[.agg #[.slice s.a s.n s.cap], .slice A2 m c2] w (RetS ic 1 2 (imTo cs ls s.n m) 0 w) := by
  have HV := Lib.hid hv
  have HP := Lib.hid hp
  have HLW := Lib.hid hlw
  have H1 := Lib.hid h1
  have H2 := Lib.hid h2
  obtain ⟨A, n, c, ps⟩ := s
  dsimp only at *
  obtain ⟨W, hW⟩ : ∃ W : World, W = w.alloc (.cells #[.slice A n c] 26) := ⟨_, rfl⟩
  have B0 : Below w.heap.size w W := by rw [hW]; exact (Below.refl _ _).alloc (Nat.le_refl _) _
  have P0 : Blk W w.heap.size 26 #[.slice A n c] := by rw [hW]; exact Blk.new _ _ _
  have HC := Lib.hid h
  have HL := Lib.hid hl
  clear h hl hv hp hlw h1 h2
  go_enter Try.func8, Try.ntmps8
  go_wp2_with fail
  rw [← hW]
  clear hW
  have c9 : W.cell? ⟨w.heap.size, 0, none⟩ = some (.slice A n c) := P0.cell 0
  go_wp2_with fail
  refine (validSiteC_any ⟨A, n, c, ps⟩ cs HV.out _ lo ((HC.out.below B0).more B0.size) hc hn1 hc3 HP.out).mono ?_
  rintro e w1 ⟨rfl, hb1⟩
  rw [H1.out]
  have B1 := B0.trans (hb1.mono B0.size)
  have P1 := P0.bel hb1
  clear c9 P0 hb1 B0
  go_wp2_with fail
  refine (validLifts_any A2 m c2 ls _ rfl _ lo ((HL.out.below B1).more B1.size) hm HLW.out).mono ?_
  rintro e w2 ⟨rfl, hb2⟩
  rw [H2.out]
  have HB2 := Lib.hid (B1.trans (hb2.mono B1.size))
  have HP2 := Lib.hid (P1.bel hb2)
  clear P1 B1 hb2
  go_wp2
  go_loopw [6, 19] (fun v i wr => ∃ k : Nat, k ≤ m ∧ i = .int .i64 k ∧ Grow ic 1 wr w.heap.size 2 v (imTo cs ls n k) ∧ Blk wr w.heap.size 26 #[.slice A n c] ∧ Below w.heap.size w wr) (fun _ i _ => m - (intOf i).toNat)
  case atStart => exact ⟨0, Nat.zero_le _, rfl, Grow.nil _ _ _, HP2.out, HB2.out⟩
  case round =>
    obtain ⟨k, hk, rfl, hgr, hP, hb⟩ := hrel
    have hll := imTo_len cs ls n k
    have hsz := hb.size
    have HG := Lib.hid hgr
    by_cases hlt : k < m
    · obtain ⟨b, off, p, eA, hx, _, hbl, hrow, c0, c1, c2, c3, c4, c5, c6, c7, c8⟩ := Lift.at ((HL.out.below hb).more hsz) hlt
      have HX := Lib.hid hx
      have hpw := HLW.out p (List.mem_of_getElem? hx)
      have HPL := Lib.hid (liftsOk_at H2.out (lv_at rfl hx)).1
      have hkn : (k : Int) < (m : Int) := by omega
      have hk0 : (0 : Int) ≤ (k : Int) := by omega
      obtain ⟨W1, hW1⟩ : ∃ W1 : World, W1 = wr.alloc (.cells #[.string p.v.name, .int .i64 p.v.weight, .int .i64 p.v.fx, .int .i64 p.v.fy, .int .i64 p.v.tx, .int .i64 p.v.ty, .int .i64 p.v.height, .int .i64 p.v.deadline, .slice p.r.a p.r.n p.r.cap] 40) := ⟨_, rfl⟩
      have hb1 : Below wr.heap.size wr W1 := by rw [hW1]; exact (Below.refl _ _).alloc (Nat.le_refl _) _
      have s0 : wr.cell? ⟨w.heap.size, 0, none⟩ = some (.slice A n c) := hP.cell 0
      have sl := hP.lt
      have HP1 := Lib.hid (hP.bel hb1)
      have HB1 := Lib.hid (hb.trans (hb1.mono hsz))
      have HG1 := Lib.hid (hgr.bel hb1)
      clear hx hrow hgr hP hb hb1
      cases hpo : posB cs p.v n
      · have HS := Lib.hid (imTo_yes HX.out hpo)
        have HPO := Lib.hid hpo
        clear hpo
        go_wp2_with fail
        rw [← hW1]
        clear hW1 c0 c1 c2 c3 c4 c5 c6 c7 c8
        refine (possible_eq ⟨A, n, c, ps⟩ cs HV.out p W1 lo ((HC.out.below HB1.out).more HB1.out.size) hn1 HP.out hpw.v.name H1.out HPL.out HPO.out).mono ?_
        rintro e w3 ⟨rfl, hb3⟩
        have HP3 := Lib.hid (HP1.out.bel hb3)
        have HB3 := Lib.hid (HB1.out.trans (hb3.mono HB1.out.size))
        have HG3 := Lib.hid (HG1.out.bel hb3)
        have hs3 := HB3.out.size
        clear hb3 s0
        have hP4 : Hid (Blk (w3.alloc (.cells #[.int .i64 (k : Int)] 2)) w.heap.size 26 #[.slice A n c]) := HP3.out.alloc _
        go_wp2_with ((at_builtin; refine wpList_snoc _ rfl _ _ 33 rfl w.heap.size 2 (.int .i64 0) 8 Try.underlying33 infoInt rfl (by omega) _ _ (((k : Nat) : Int)) rfl (HG3.out.alloc _) _ _ rfl (heap_alloc_new _ _) rfl rfl (ic_one _) (by omega) (by omega) (by simp; omega) ?_; intro v' w5 hg5 hgr5))
        rw [← eA]
        go_roundw
        case rel => exact ⟨k + 1, by omega, by go_num, by rw [HS.out]; exact hg5, Blk.kept hP4.out (by decide) (HG3.out.alloc _) hgr5, (HG3.out.alloc _).below (HB3.out.alloc hs3 _) hgr5 (Nat.le_refl _) (by simp; omega)⟩
        case measure => simp [intOf]; omega
      · have HS := Lib.hid (imTo_no HX.out hpo)
        have HPO := Lib.hid hpo
        clear hpo
        go_wp2_with fail
        rw [← hW1]
        clear hW1 c0 c1 c2 c3 c4 c5 c6 c7 c8
        refine (possible_eq ⟨A, n, c, ps⟩ cs HV.out p W1 lo ((HC.out.below HB1.out).more HB1.out.size) hn1 HP.out hpw.v.name H1.out HPL.out HPO.out).mono ?_
        rintro e w3 ⟨rfl, hb3⟩
        have HP3 := Lib.hid (HP1.out.bel hb3)
        have HB3 := Lib.hid (HB1.out.trans (hb3.mono HB1.out.size))
        have HG3 := Lib.hid (HG1.out.bel hb3)
        clear hb3 s0
        go_wp2
        rw [← eA]
        go_roundw
        case rel => exact ⟨k + 1, by omega, by go_num, by rw [HS.out]; exact HG3.out, HP3.out, HB3.out⟩
        case measure => simp [intOf]; omega
    · obtain rfl : k = m := by omega
      have HB := Lib.hid hb
      clear hgr hb
      go_wp2
      go_ret2
      exact HG.out.rets ic_len HB.out
end Go.Proofs.Ytnidnmbicnhflaa
/- XWk5: AbilityTable of the program: for each lift, which cranes can do it. -/
namespace Go.Proofs.Ytnidnmbicnhflaa
open Go.RowKit Go.Shelf
set_option linter.unusedVariables false
attribute [local go_sem] Oper.semAt_some

/-- an append inside a fence -/
theorem wpListIn_snoc {F : Fence} {fd : Nat} {α : Type} {P : Program} {c : α → List Value} {k : Nat} (w : World) {ops : Array Oper} {rest : List Oper} {o : Oper} {a : Act} {Q : Exit → Act → World → Prop} (hgd : o.guard = none) (s x : Operand) (t : TypeId)
    (ho : o.op = .call { callee := .builtin .append, args := #[s, x], argTypes := #[t, t] })
    (lo : Nat) (e : TypeId) (z : Value) (bytes : Nat) (ht : P.underlying t = some (.slice e)) (hinfo : (P.info? e).map (fun i => (i.zero, i.size, i.bytes)) = some (some z, k, bytes)) (hzs : z.cells.size = k) (hk : 0 < k)
    (v : Value) (xs : List α) (y : α) (hs : a.eval s = v) (hown : Grow c k w lo e v xs) (g : Nat) (cs : Array Value) (hx : a.eval x = .slice (some ⟨g, 0, none⟩) 1 1) (hg : w.heap[g]? = some (.cells cs e (0, 0)))
    (hcy : c y = cs.toList) (hlen : (c y).length = k) (h1 : ∀ u ∈ c y, u.oneCell' = true) (h63 : xs.length + 1 ≤ 4194304) (hbytes : bytes ≤ 4096) (hbase : lo ≤ w.heap.size)
    (h : ∀ v' w', Grow c k w' lo e v' (xs ++ [y]) → w.grownBy w' v.ownBlock → wpListIn F fd P ops Q rest (a.put o.dst v') w') : wpListIn F fd P ops Q (o :: rest) a w := by
  obtain ⟨i0, hi, hz0, hz1, hz2⟩ := info_parts hinfo
  refine wpListIn_append_own w hgd s x t ho lo e i0 z k bytes ht hi hz0 hz1 hz2 hzs hk v xs.length (xs.flatMap c) hs hown ⟨g, 0, none⟩ 1 1 (c y) hx (by omega) (fun j u hu => ?_) h1 (by unfold maxLen; omega)
    (Nat.le_trans (Nat.mul_le_mul h63 hbytes) (by decide)) hbase fun v' w' r1 r2 _ => h v' w' (by simpa [Grow] using r1) r2
  have hadd : (⟨g, 0, none⟩ : Addr).add j = ⟨g, j, none⟩ := by unfold Addr.add; split <;> simp_all
  rw [hadd, cell_of_row w g j cs e (0, 0) hg]
  rw [hcy] at hu; simpa using hu

/-- a function that has run ranges over functions, one a round: their marks, each turned once -/
theorem leaves_marks {F : Fence} {n : Nat} {P : Program} {fn : Func} {tmps : Array Value} {R : Ending → World → Prop} (Pw : World → Prop) (base : Nat)
    (hP : ∀ w D, Pw w → base ≤ D → w.heap[D]? = some (.deferred (some [])) → Pw (w.putObj D (.deferred none))) (hR : ∀ w, Pw w → LeavesIn F n P fn tmps R [] .returning w) :
    ∀ Ds : List Nat, Ds.Nodup → ∀ w, Pw w → (∀ D ∈ Ds, base ≤ D ∧ w.heap[D]? = some (.deferred (some []))) → LeavesInM F n P fn tmps R (Ds.map fun D => { target := .collected D, args := #[] }) .returning w
  | [], _, w, hw, _ => hR w hw
  | D :: Ds, hd, w, hw, hD => by
    obtain ⟨h0, h1⟩ := hD D List.mem_cons_self
    refine ⟨by simp, .inl ⟨D, _, rfl, run_takeDeferred h1, ?_⟩⟩
    refine leaves_marks Pw base hP hR Ds (List.nodup_cons.1 hd).2 _ (hP w D hw h0 h1) fun E hE => ?_
    obtain ⟨k0, k1⟩ := hD E (List.mem_cons_of_mem _ hE)
    refine ⟨k0, (World.putObj_heap_other (fun e => ?_)).trans k1⟩
    subst e
    exact (List.nodup_cons.1 hd).1 hE
theorem cell_putObj {w : World} {D : Nat} {x y : Option (List Deferred)} (h : w.heap[D]? = some (.deferred x)) (p : Addr) : (w.putObj D (.deferred y)).cell? p = w.cell? p := by
  by_cases e : p.block = D
  · subst e
    have h2 : (w.putObj p.block (.deferred y)).heap[p.block]? = some (.deferred y) := by
      unfold World.putObj
      have hl := (Array.getElem?_eq_some_iff.1 h).1
      simp [hl]
    unfold World.cell?
    rw [h, h2]
  · have h2 : (w.putObj D (.deferred y)).heap[p.block]? = w.heap[p.block]? := World.putObj_heap_other e
    unfold World.cell?
    rw [h2]

def bl (b : Bool) : List Value := [.bool b]
theorem bl_len (b : Bool) : (bl b).length = 1 := rfl
theorem bl_one (b : Bool) : ∀ u ∈ bl b, u.oneCell' = true := by intro u hu; unfold bl at hu; rw [List.mem_singleton] at hu; subst hu; rfl
/-- a row of n Booleans -/
def rowA (n : Nat) (f : Nat → Bool) : Array Value := ((List.range n).map fun i => Value.bool (f i)).toArray
theorem rowA_size (n : Nat) (f : Nat → Bool) : (rowA n f).size = n := by simp [rowA]
theorem rowA_at {n : Nat} {f : Nat → Bool} {i : Nat} (h : i < n) : (rowA n f)[i]? = some (.bool (f i)) := by simp [rowA, h]
theorem rowA_congr {n : Nat} {f g : Nat → Bool} (h : ∀ i, i < n → f i = g i) : rowA n f = rowA n g := by
  unfold rowA
  congr 1
  exact List.map_congr_left fun i hi => by rw [h i (List.mem_range.1 hi)]
theorem rowA_made (n : Nat) : madeCells #[.bool false] n = rowA n fun _ => false := by
  apply Array.toList_inj.1
  rw [toList_madeCells_one]
  unfold rowA
  dsimp only
  symm
  rw [List.eq_replicate_iff]
  exact ⟨by simp, fun b hb => by obtain ⟨_, _, e⟩ := List.mem_map.1 hb; exact e.symm⟩
theorem flatMap_one {α β : Type} (f : α → β) : ∀ l : List α, (l.flatMap fun a => [f a]) = l.map f
  | [] => rfl
  | a :: l => by rw [List.flatMap_cons, flatMap_one f l]; rfl
theorem rowA_set {n : Nat} {f : Nat → Bool} {j : Nat} : (rowA n f).setIfInBounds j (.bool true) = rowA n fun i => f i || decide (j = i) := by
  apply Array.ext
  · simp [rowA]
  · intro i h1 h2
    rw [rowA_size] at h2
    rw [Array.getElem_setIfInBounds (by simpa [rowA] using h2)]
    by_cases e : j = i
    · subst e; simp [rowA]
    · simp [rowA, e]
def preF {n : Nat} (pre : List (Place n)) (i : Nat) : Bool := pre.any fun x => decide (x.1 = i)
theorem preF_snoc {n : Nat} (pre : List (Place n)) (x : Place n) : (fun i => preF (pre ++ [x]) i) = fun i => preF pre i || decide (x.1 = i) := by
  funext i; simp [preF]
theorem preF_sub (cs : List CV) (v : LiftV) (n : Nat) : ∀ k, k ≤ n → ∀ i, preF (abSub cs v n k) i = (decide (i < k) && ableAt cs v i)
  | 0, _, i => by simp [abSub, preF]
  | k + 1, hk, i => by
    have ih := preF_sub cs v n k (by omega) i
    cases ha : ableAt cs v k
    · rw [abSub_no (by omega) ha, ih]
      by_cases e : i = k
      · subst e; simp [ha]
      · have : decide (i < k) = decide (i < k + 1) := by simp; omega
        rw [this]
    · rw [abSub_yes (by omega) ha, congrFun (preF_snoc _ _) i, ih]
      by_cases e : i = k
      · subst e; simp [ha]
      · have e2 : decide (k = i) = false := decide_eq_false fun h => e h.symm
        have : decide (i < k) = decide (i < k + 1) := by simp; omega
        rw [this]; dsimp only; rw [e2, Bool.or_false]
/-- which of the first n cranes can do a lift -/
def rowB (cs : List CV) (v : LiftV) (n : Nat) : List Bool := (List.range n).map (ableAt cs v)
theorem rowB_at {cs : List CV} {v : LiftV} {n i : Nat} (h : i < n) : (rowB cs v n)[i]? = some (ableAt cs v i) := by simp [rowB, h]
theorem rowB_cells (cs : List CV) (v : LiftV) (n : Nat) : (rowB cs v n).flatMap bl = (rowA n fun i => preF (abSub cs v n n) i).toList := by
  rw [rowA_congr (g := ableAt cs v) (fun i hi => by rw [preF_sub cs v n n (Nat.le_refl _)]; simp [hi])]
  unfold rowB rowA bl
  rw [List.flatMap_map]
  exact flatMap_one (fun a => Value.bool (ableAt cs v a)) (List.range n)
def TableR (cs : List CV) (ls : List Lift) (n : Nat) (w : World) (e : Ending) (w' : World) : Prop :=
  ∃ (A : Option Addr) (cap : Nat) (rows : List (Row Bool)), e = .returned (.tuple #[.slice A rows.length cap, .int .i64 0]) ∧ Arr Row.cs 1 w' w.heap.size w'.heap.size A rows.length rows ∧ (∀ r ∈ rows, r.n = n ∧ Arr bl 1 w' w.heap.size w'.heap.size r.a r.n r.xs) ∧ rows.map Row.xs = ls.map (fun p => rowB cs p.v n) ∧ Below w.heap.size w w'
theorem row_one (r : Row Bool) : ∀ u ∈ r.cs, u.oneCell' = true := by intro u hu; unfold Row.cs at hu; rw [List.mem_singleton] at hu; subst hu; rfl
theorem row_own (cs : List CV) (v : LiftV) {n lo hi G : Nat} {W : World} (h : Blk W G 4 (rowA n fun i => preF (abSub cs v n n) i)) (hl : lo ≤ G) (hh : G < hi) : Own bl 1 W lo hi 4 (some ⟨G, 0, none⟩) n (rowB cs v n) := by
  refine ⟨by simp [rowB], fun _ => ⟨G, _, rfl, hl, hh, h, by rw [rowA_size]; omega, fun i x hx j hj => ?_⟩⟩
  obtain rfl : j = 0 := by omega
  have hi : i < n := by have := (List.getElem?_eq_some_iff.1 hx).1; simpa [rowB] using this
  rw [rowB_at hi] at hx
  rw [show i * 1 + 0 = i by omega, rowA_at hi, ← Option.some.inj hx, preF_sub cs v n n (Nat.le_refl _)]
  simp [bl, hi]
theorem Own.belW {α : Type} {c : α → List Value} {k : Nat} {w w' : World} {lo hi B : Nat} {e : TypeId} {A : Option Addr} {n : Nat} {xs : List α} (h : Own c k w lo hi e A n xs) (hb : Below B w w') (hB : hi ≤ B) : Own c k w' lo hi e A n xs :=
  ⟨h.1, fun hn => by
    obtain ⟨g, cs, e1, h1, h0, h2, h3, h4⟩ := h.2 hn
    exact ⟨g, cs, e1, h1, h0, by rw [hb.block g (by omega), h2], h3, h4⟩⟩
theorem blk_ownF {β : Type} (B : Nat) (t : TypeId) (cs : β → Array Value) : Go.Own (fun (x : β) W => Blk W B t (cs x)) := fun s X Y row hs hg hrow =>
  (hg.block B (heap_lt hs) (fun e => by obtain ⟨o, ho, hc⟩ := hrow B e.symm; rw [show X.heap[B]? = _ from hs] at ho; cases ho; cases hc)).trans hs
theorem infoBoolW : (Try.prog.info? 4).map (fun i => (i.zero, i.size, i.bytes)) = some (some (.bool false), 1, 1) := by kernel_rfl
theorem infoRowW : (Try.prog.info? 43).map (fun i => (i.zero, i.size, i.bytes)) = some (some (.slice none 0 0), 1, 24) := by kernel_rfl
set_option maxRecDepth 100000 in
set_option maxHeartbeats 6400000 in
theorem abilityTable_any (s : Row Crane) (cs : List CV) (hv : s.xs.map Crane.val = cs) (A2 : Option Addr) (m c2 : Nat) (ls : List Lift) (w : World) (lo : Nat) (h : Cranes w lo w.heap.size s.a s.n s.xs) (hc : s.n ≤ s.cap) (hn1 : s.n ≤ 1000) (hc3 : s.cap ≤ 9223372036854775807) (hp : ∀ p ∈ s.xs, p.wf) (hl : Lifts w lo w.heap.size A2 m ls) (hm : m ≤ 1000) (hlw : ∀ p ∈ ls, p.wf) (h1 : siteOk cs = true) (h2 : liftsOk (ls.map Lift.val) = true) :
    Calls Try.prog 7 #[.agg #[.slice s.a s.n s.cap], .slice A2 m c2] w (TableR cs ls s.n w) := by
  have HV := Lib.hid hv
  have HP := Lib.hid hp
  have HLW := Lib.hid hlw
  have H1 := Lib.hid h1
  have H2 := Lib.hid h2
  obtain ⟨A, n, c, ps⟩ := s
  dsimp only at *
  obtain ⟨W, hW⟩ : ∃ W : World, W = w.alloc (.cells #[.slice A n c] 26) := ⟨_, rfl⟩
  have B0 : Below w.heap.size w W := by rw [hW]; exact (Below.refl _ _).alloc (Nat.le_refl _) _
  have P0 : Blk W w.heap.size 26 #[.slice A n c] := by rw [hW]; exact Blk.new _ _ _
  have HC := Lib.hid h
  have HL := Lib.hid hl
  clear h hl hv hp hlw h1 h2
  refine (callsIn_wide (n := 5)).1 ?_
  have hro : Fence.wide.round = none := rfl
  refine callsIn_of_wp_marks Try.func7 rfl trivial ?_ hro
  simp only [Try.ntmps7, List.size_toArray, List.length_cons, List.length_nil, Nat.reduceAdd, Nat.reduceSub, Array.replicate_succ, Array.replicate_zero, List.push_toArray, List.append_toArray, List.nil_append, List.cons_append]
  gi_wp2_with fail
  rw [← hW]
  clear hW
  have c9 : W.cell? ⟨w.heap.size, 0, none⟩ = some (.slice A n c) := P0.cell 0
  gi_wp2_with fail
  refine ⟨trivial, ?_⟩
  refine (callsIn_wide.2 (validSiteC_any ⟨A, n, c, ps⟩ cs HV.out _ lo ((HC.out.below B0).more B0.size) hc (by dsimp only; omega) hc3 HP.out)).mono ?_
  rintro e w1 ⟨rfl, hb1⟩
  rw [H1.out]
  have B1 := B0.trans (hb1.mono B0.size)
  have P1 := P0.bel hb1
  clear c9 P0 hb1 B0
  gi_wp2_with fail
  refine ⟨trivial, ?_⟩
  refine (callsIn_wide.2 (validLifts_any A2 m c2 ls _ rfl _ lo ((HL.out.below B1).more B1.size) (by omega) HLW.out)).mono ?_
  rintro e w2 ⟨rfl, hb2⟩
  rw [H2.out]
  have HB2 := Lib.hid (B1.trans (hb2.mono B1.size))
  have HP2 := Lib.hid (P1.bel hb2)
  clear P1 B1 hb2
  gi_wp2
  refine wpIn_loop (fun a' wr => ∃ (u6 u8 u9 u10 u22 u23 u24 u25 u26 u27 u28 u29 u30 u31 u32 u33 u34 u35 u36 u37 u38 u39 u40 : Value) (k : Nat) (rows : List (Row Bool)) (Ds : List Nat), (k ≤ m ∧ rows.length = k ∧ Grow Row.cs 1 wr w.heap.size 43 u6 rows ∧ rows.map Row.xs = (ls.take k).map (fun p => rowB cs p.v n) ∧ (∀ r ∈ rows, r.n = n ∧ Own bl 1 wr w.heap.size wr.heap.size 4 r.a r.n r.xs) ∧ Blk wr w.heap.size 26 #[.slice A n c] ∧ Below w.heap.size w wr ∧ Ds.Nodup ∧ (∀ D ∈ Ds, w.heap.size ≤ D ∧ wr.heap[D]? = some (.deferred (some [])))) ∧ a' = { tmps := #[.agg #[.slice A n c], .slice A2 m c2, .pointer (some ⟨w.heap.size, 0, none⟩), undef, .slice none 0 0, .int .i64 0, u6, undef, u8, u9, u10, .agg #[.slice A n c], .bool true, .bool false, .bool false, .slice A2 m c2, .bool true, .bool false, .bool false, .slice A2 m c2, .int .i64 (m : Int), .int .i64 (k : Int), u22, u23, u24, u25, u26, u27, u28, u29, u30, u31, u32, u33, u34, u35, u36, u37, u38, u39, u40, undef], defers := Ds.map fun D => { target := .collected D, args := #[] } }) (fun a' _ => m - (intOf (a'.tmps.getD 21 undef)).toNat) ?_ ?_
  · exact ⟨_, _, _, _, _, _, _, _, _, _, _, _, _, _, _, _, _, _, _, _, _, _, _,  0, [], [], ⟨Nat.zero_le _, rfl, Grow.nil _ _ _, rfl, fun r hr => (by cases hr), HP2.out, HB2.out, List.nodup_nil, fun D hD => (by cases hD)⟩, rfl⟩
  · rintro a wr ⟨u6, u8, u9, u10, u22, u23, u24, u25, u26, u27, u28, u29, u30, u31, u32, u33, u34, u35, u36, u37, u38, u39, u40, k, rows, Ds, ⟨hk, hrl, hgr, hrx, hrw, hP, hb, hnd, hDs⟩, rfl⟩
    have hsz := hb.size
    have HG := Lib.hid hgr
    have HRX := Lib.hid hrx
    have HRW := Lib.hid hrw
    have HPS := Lib.hid hP
    have HB := Lib.hid hb
    have HND := Lib.hid hnd
    have HDS := Lib.hid hDs
    clear hgr hrx hrw hb hnd hDs HB2 HP2
    by_cases hlt : k < m
    · obtain ⟨b, off, p, eA, hx, _, hbl, hrow, c0, c1, c2', c3, c4, c5, c6, c7, c8⟩ := Lift.at ((HL.out.below HB.out).more hsz) hlt
      have HX := Lib.hid hx
      have hpw := HLW.out p (List.mem_of_getElem? hx)
      have HPL := Lib.hid (liftsOk_at H2.out (lv_at rfl hx)).1
      have hkn : (k : Int) < (m : Int) := by omega
      have hk0 : (0 : Int) ≤ (k : Int) := by omega
      have s0 : wr.cell? ⟨w.heap.size, 0, none⟩ = some (.slice A n c) := hP.cell 0
      have sl := hP.lt
      clear hx hrow hP
      obtain ⟨W3, hW3⟩ : ∃ V : World, V = ((wr.alloc (.cells #[.string p.v.name, .int .i64 p.v.weight, .int .i64 p.v.fx, .int .i64 p.v.fy, .int .i64 p.v.tx, .int .i64 p.v.ty, .int .i64 p.v.height, .int .i64 p.v.deadline, .slice p.r.a p.r.n p.r.cap] 40)).alloc (.cells (rowA n fun _ => false) 4)).alloc (.cells #[.slice (some ⟨wr.heap.size + 1, 0, none⟩) n n] 43) := ⟨_, rfl⟩
      have hb3 : Below wr.heap.size wr W3 := by rw [hW3]; exact (((Below.refl _ _).alloc (Nat.le_refl _) _).alloc (by simp) _).alloc (by simp; omega) _
      have L3 : Blk W3 wr.heap.size 40 #[.string p.v.name, .int .i64 p.v.weight, .int .i64 p.v.fx, .int .i64 p.v.fy, .int .i64 p.v.tx, .int .i64 p.v.ty, .int .i64 p.v.height, .int .i64 p.v.deadline, .slice p.r.a p.r.n p.r.cap] := by rw [hW3]; exact ((Blk.new _ _ _).alloc _).alloc _
      have R3 : Blk W3 (wr.heap.size + 1) 4 (rowA n fun _ => false) := by rw [hW3]; exact (Blk.new_at rfl (by simp)).alloc _
      have S3 : Blk W3 (wr.heap.size + 1 + 1) 43 #[.slice (some ⟨wr.heap.size + 1, 0, none⟩) n n] := by rw [hW3]; exact Blk.new_at rfl (by simp)
      have hs3 : W3.heap.size = wr.heap.size + 3 := by rw [hW3]; simp
      have s3 : W3.cell? ⟨w.heap.size, 0, none⟩ = some (.slice A n c) := (HPS.out.bel hb3).cell 0
      obtain ⟨l0, l1, l2, l3, l4, l5, l6, l7, l8⟩ := Lift.blk L3
      rw [hW3] at s3 l0 l1 l2 l3 l4 l5 l6 l7 l8
      have hmk : ∀ W, (Instr.makeSlice 43 (.int .i64 (n : Int)) (.int .i64 (n : Int))).run Try.prog W = .ok (.slice (some ⟨W.heap.size, 0, none⟩) n n) (W.alloc (.cells (rowA n fun _ => false) 4)) := fun W => by
        obtain ⟨i0, hi, hz0, hz1, hz2⟩ := info_parts infoBoolW
        have := run_make_rowN (P := Try.prog) 43 4 i0 _ Try.underlying43 hi hz0 .i64 .i64 n n (Nat.le_refl _) (by rw [hz2]; omega) (by omega) W
        rw [hz1, Nat.mul_one] at this
        rw [← rowA_made]
        exact this
      gi_wp2_with fail
      rw [← hW3]
      refine ⟨trivial, ?_⟩
      refine (ables_in _ A n c p _).mono ?_
      rintro e w4 ⟨rfl, hw4⟩
      have hb4 : Below W3.heap.size W3 w4 := by rw [hw4]; exact ((Below.refl _ _).alloc (Nat.le_refl _) _).alloc (by simp) _
      have P4 : Blk w4 W3.heap.size 26 #[.slice A n c] := by rw [hw4]; exact (Blk.new _ _ _).alloc _
      have Q4 : Blk w4 (W3.heap.size + 1) 40 #[.string p.v.name, .int .i64 p.v.weight, .int .i64 p.v.fx, .int .i64 p.v.fy, .int .i64 p.v.tx, .int .i64 p.v.ty, .int .i64 p.v.height, .int .i64 p.v.deadline, .slice p.r.a p.r.n p.r.cap] := by rw [hw4]; exact Blk.new_at rfl (by simp)
      have hs4 : w4.heap.size = W3.heap.size + 2 := by rw [hw4]; simp
      have R4 := R3.bel hb4
      have S4 : Boxed w4 (wr.heap.size + 1 + 1) 43 (.slice (some ⟨wr.heap.size + 1, 0, none⟩) n n) := S3.bel hb4
      clear hw4 hW3 s3 l0 l1 l2 l3 l4 l5 l6 l7 l8 hmk L3 R3 S3 c0 c1 c2' c3 c4 c5 c6 c7 c8 s0
      have B4 : Below wr.heap.size wr w4 := hb3.trans (hb4.mono hb3.size)
      obtain ⟨G, hG⟩ : ∃ G, wr.heap.size + 1 = G := ⟨_, rfl⟩
      have hWG : W3.heap.size = G + 2 := by omega
      have HC4 : Hid (Cranes w4 lo G A n ps) := (HC.out.below (HB.out.trans (B4.mono hsz))).more (by omega)
      have hLA := LiftAt.blk Q4
      have hBs4 : w4.cell? ⟨W3.heap.size, 0, none⟩ = some (.slice A n c) := P4.cell 0
      rw [hWG] at hLA hBs4 hs4 ⊢
      rw [hG] at R4 S4 ⊢
      have HB4 := Lib.hid B4
      clear P4 Q4 hb4 hb3 B4 hs3
      have hGw : wr.heap.size ≤ G := by omega
      have hEA := Lib.hid eA
      gi_wp2_with fail
      refine wpIn_rangeFunc_ownH hro (by omega : 1 ≤ 5) (gf := 58) (lb := #[.pointer (some ⟨G + 2, 0, none⟩), .pointer (some ⟨G + 2 + 1, 0, none⟩)]) rfl trivial (enters_of Try.func58 (by kernel_rfl) rfl)
        (ables_stops (5 - 1) (by omega) (G + 2) (G + 2 + 1) G lo A n c ps cs HV.out p (by omega) HP.out hpw.v.name H1.out HPL.out w4 hBs4 (by omega) hLA (by omega) (by omega) HC4.out)
        (fun h k => h.trans k) (fun W l o o' hl ho hc hw => ⟨belowK_b (by omega) W l o o' hl ho hc hw, (grownBy_putObj' W l o').block _ (by have := (Array.getElem?_eq_some_iff.1 ho).1; omega) (fun e => by cases e; omega)⟩) (Below.refl _ _) (fun _ => rfl)
        (fun pre W => (Blk W G 4 (rowA n fun i => preF pre i) ∧ Boxed W (G + 1) 43 (.slice (some ⟨G, 0, none⟩) n n)) ∧ Below G w4 W)
        (fun _ _ _ => False)
        (OwnFrom.and (OwnFrom.and (Own.from (blk_ownF G 4 _) _) (Own.from (boxed_own (G + 1) 43 _) _)) (ownFrom_below (by omega) (by omega)))
        (fun _ _ _ _ _ hs _ _ => hs)
        ⟨⟨R4, S4⟩, Below.refl _ _⟩
        (fun x a' W => a' = { tmps := #[.agg #[.slice A n c], .slice (some ⟨b, off, none⟩) m c2, .pointer (some ⟨w.heap.size, 0, none⟩), undef, .slice none 0 0, .int .i64 0, u6, undef, .pointer (some ⟨wr.heap.size, 0, none⟩), .pointer (some ⟨G + 1, 0, none⟩), .int .i64 (x.1 : Int), .agg #[.slice A n c], .bool true, .bool false, .bool false, .slice (some ⟨b, off, none⟩) m c2, .bool true, .bool false, .bool false, .slice (some ⟨b, off, none⟩) m c2, .int .i64 (m : Int), .int .i64 (k : Int), .bool true, .pointer (some ⟨b, off + k * 9, none⟩), .agg #[.string p.v.name, .int .i64 p.v.weight, .int .i64 p.v.fx, .int .i64 p.v.fy, .int .i64 p.v.tx, .int .i64 p.v.ty, .int .i64 p.v.height, .int .i64 p.v.deadline, .slice p.r.a p.r.n p.r.cap], .pointer (some ⟨w.heap.size, 0, none⟩), .slice A n c, .int .i64 (n : Int), .slice (some ⟨G, 0, none⟩) n n, .agg #[.slice A n c], .agg #[.string p.v.name, .int .i64 p.v.weight, .int .i64 p.v.fx, .int .i64 p.v.fy, .int .i64 p.v.tx, .int .i64 p.v.ty, .int .i64 p.v.height, .int .i64 p.v.deadline, .slice p.r.a p.r.n p.r.cap], .func (.func 58) #[] #[.pointer (some ⟨G + 2, 0, none⟩), .pointer (some ⟨G + 2 + 1, 0, none⟩)], .int .i64 (x.1 : Int), u33, u34, u35, u36, u37, u38, u39, u40, undef], defers := [] })
        (fun x a' _ X Y row hs hg hr => hs)
        ?assign ?body ?done ?stop
      case assign =>
        rintro l' pre x W K ⟨⟨bF, bG⟩, hB⟩ hK
        gi_wp2
        exact hK _ _ (KeepsFrom.refl _ _) ⟨Below.refl _ _, rfl⟩ ⟨⟨bF, bG⟩, hB⟩ rfl
      case body =>
        rintro l' pre x a' W hlr ⟨r, hr⟩ ⟨⟨bF, bG⟩, hB⟩ rfl hlt2
        obtain ⟨j, hj⟩ := x
        dsimp only
        have d0 := bG.cell
        have q0 : W.cell? ⟨G, j, none⟩ = some (.bool (preF pre j)) := (bF.cell j).trans (rowA_at hj)
        have q1 := bF.frozen j
        have hjn : (j : Int) < (n : Int) := by omega
        have hj0 : (0 : Int) ≤ (j : Int) := by omega
        have HBF := Lib.hid bF
        have HBG := Lib.hid bG
        have HBB := Lib.hid hB
        clear bF bG hB hr
        gi_wp2
        refine ⟨(KeepsOthers.setCell _ _ _).from _, ⟨(Below.refl G W).setCell (p := ⟨G, j, none⟩) (Nat.le_refl _) _, Below.heap_setCell W ⟨G, j, none⟩ (.bool true) (G + 2 + 1) (by show G + 2 + 1 ≠ G; omega)⟩, ⟨?_, Blk.far HBG.out (p := ⟨G, j, none⟩) (by show G + 1 ≠ G; omega) _⟩, HBB.out.setCell (p := ⟨G, j, none⟩) (Nat.le_refl _) _⟩
        rw [preF_snoc]
        exact HBF.out.set_lit (i := j) rowA_set
      case done =>
        rintro D ys W hD rfl ⟨⟨bF, bG⟩, hB⟩ hK
        have hBr : Below wr.heap.size wr W := HB4.out.trans (hB.mono hGw)
        have HBW := Lib.hid (HB.out.trans (hBr.mono hsz))
        have hWs := hBr.size
        have hBs := hB.size
        have HROWN := Lib.hid (row_own cs p.v (lo := w.heap.size) (hi := W.heap.size) bF (by omega) (by omega))
        have HGW := Lib.hid (HG.out.bel hBr)
        have HBR := Lib.hid hBr
        have HKD := Lib.hid hK
        have d0 := bG.cell
        obtain ⟨W8, hW8⟩ : ∃ V : World, V = W.alloc (.cells #[.slice (some ⟨G, 0, none⟩) n n] 43) := ⟨_, rfl⟩
        have hb8 : Below W.heap.size W W8 := by rw [hW8]; exact (Below.refl _ _).alloc (Nat.le_refl _) _
        have hs8 : W8.heap.size = W.heap.size + 1 := by rw [hW8]; simp
        have HG8 := Lib.hid (HGW.out.bel hb8)
        have HB8 := Lib.hid hb8
        have HW8 := Lib.hid hW8
        clear bF bG hB hK hBr hb8 hW8 R4 S4 hBs4 hLA
        gi_wp2_with (gi_at_builtin; rw [← HW8.out]; refine wpListIn_snoc _ rfl _ _ 30 rfl w.heap.size 43 (.slice none 0 0) 24 Try.underlying30 infoRowW rfl (by omega) u6 rows (⟨some ⟨G, 0, none⟩, n, n, rowB cs p.v n⟩ : Row Bool) rfl HG8.out _ _ rfl (by rw [HW8.out]; exact heap_alloc_new _ _) rfl rfl (row_one _) (by omega) (by omega) (by omega) ?_; intro v' w5 hg5 hgr5)

        rw [← eA]
        have hz5 := hgr5.size
        have hnb : ∀ q, some q = u6.ownBlock → w.heap.size ≤ q ∧ ∃ cs9 t9 f9, W8.heap[q]? = some (.cells cs9 t9 f9) := fun q e9 => by
          rcases HG8.out.2 with ⟨e1, _⟩ | ⟨g9, cap9, cur9, e1, h19, h29, _⟩
          · rw [e1] at e9; simp [Value.ownBlock] at e9
          · rw [e1] at e9
            simp only [Value.ownBlock, Option.some.injEq] at e9
            subst e9
            exact ⟨h19, _, _, _, h29⟩
        have hdef : ∀ E : Nat, W8.heap[E]? = some (.deferred (some [])) → w5.heap[E]? = some (.deferred (some [])) := fun E hE => by
          refine (hgr5.block E (heap_lt hE) (fun e9 => ?_)).trans hE
          obtain ⟨_, _, _, _, h9⟩ := hnb E e9
          rw [hE] at h9
          cases h9
        have hD8 : W8.heap[D]? = some (.deferred (some [])) := (HB8.out.block D (heap_lt HKD.out)).trans HKD.out
        have hDs8 : ∀ E ∈ Ds, w.heap.size ≤ E ∧ W8.heap[E]? = some (.deferred (some [])) := fun E hE => by
          obtain ⟨a1, a2⟩ := HDS.out E hE
          have a3 := heap_lt a2
          exact ⟨a1, (HB8.out.block E (by omega)).trans ((HBR.out.block E a3).trans a2)⟩
        refine ⟨⟨_, _, _, _, _, _, _, _, _, _, _, _, _, _, _, _, _, _, _, _, _, _, _, k + 1, rows ++ [(⟨some ⟨G, 0, none⟩, n, n, rowB cs p.v n⟩ : Row Bool)], D :: Ds, ⟨by omega, by rw [List.length_append, hrl]; rfl, hg5, ?_, ?_, ?_, ?_, ?_, ?_⟩, rfl⟩, ?_⟩
        · rw [List.map_append, HRX.out, List.take_add_one, HX.out]
          simp
        · intro r hr
          rcases List.mem_append.1 hr with hr | hr
          · obtain ⟨a1, a2⟩ := HRW.out r hr
            exact ⟨a1, (Own.kept ((a2.bel HBR.out).belW HB8.out (by omega)) (by decide) HG8.out hgr5).wide (Nat.le_refl _) (by omega)⟩
          · rw [List.mem_singleton] at hr
            subst hr
            exact ⟨rfl, (Own.kept (HROWN.out.bel HB8.out) (by decide) HG8.out hgr5).wide (Nat.le_refl _) (by omega)⟩
        · exact Blk.kept ((HPS.out.bel HBR.out).bel HB8.out) (by decide) HG8.out hgr5
        · exact Grow.below HG8.out (HBW.out.trans (HB8.out.mono HBW.out.size)) hgr5 (Nat.le_refl _) (by have := HBW.out.size; omega)
        · refine List.nodup_cons.2 ⟨fun hm => ?_, HND.out⟩
          have := heap_lt (HDS.out D hm).2
          omega
        · intro E hE
          rcases List.mem_cons.1 hE with rfl | hE
          · exact ⟨by omega, hdef _ hD8⟩
          · exact ⟨(hDs8 E hE).1, hdef _ (hDs8 E hE).2⟩
        · simp [intOf]; omega
      case stop =>
        rintro D c pre W _ _ h _
        exact h.elim
    · obtain rfl : k = m := by omega
      obtain ⟨A3, cap3, rfl, hown3⟩ := HG.out.own Row.cs_len
      have HO3 := Lib.hid hown3
      have HTK : Hid (ls.take k = ls) := by show _ = _; exact List.take_of_length_le (by rw [HL.out.len]; exact Nat.le_refl _)
      clear hown3 hP
      gi_wp2
      refine leaves_marks (fun w' => Arr Row.cs 1 w' w.heap.size wr.heap.size A3 rows.length rows ∧ (∀ r ∈ rows, r.n = n ∧ Arr bl 1 w' w.heap.size wr.heap.size r.a r.n r.xs) ∧ Below w.heap.size w w' ∧ wr.heap.size ≤ w'.heap.size) w.heap.size (fun w' D ⟨h1, h2, h3, h4⟩ hD hK => ?_) (fun w' ⟨h1, h2, h3, h4⟩ => ?_) Ds HND.out wr ⟨HO3.out.arr Row.cs_len, fun r hr => ⟨(HRW.out r hr).1, (HRW.out r hr).2.arr bl_len⟩, HB.out, Nat.le_refl _⟩ HDS.out
      · refine ⟨h1.keep fun q _ _ => cell_putObj hK q, fun r hr => ⟨(h2 r hr).1, (h2 r hr).2.keep fun q _ _ => cell_putObj hK q⟩, h3.trans (belowK_b (w := w) (Nat.le_refl _) w' D _ (.deferred none) hD hK rfl rfl), by simpa using h4⟩
      · refine ⟨_, results_tmp2 rfl _ _ _, ?_⟩
        exact ⟨A3, cap3, rows, by rw [hrl]; rfl, h1.more h4, fun r hr => ⟨(h2 r hr).1, (h2 r hr).2.more h4⟩, by rw [HRX.out, HTK.out], h3⟩

end Go.Proofs.Ytnidnmbicnhflaa
