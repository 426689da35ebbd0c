/- BestCrane of the program hands back bcVal and bcCode. -/
import Derived.Test.YtnidnmbicnhflaaBestIter
import Derived.Test.YtnidnmbicnhflaaSpecBest
import Derived.Sort.QuietIn
import Derived.Shelf.RegionOpen
namespace Go.Proofs.Ytnidnmbicnhflaa
open Go.RowKit Go.Shelf
set_option linter.unusedVariables false
attribute [local go_sem] Oper.semAt_some
def ldM (cs : List CV) (v : LiftV) (i : Int) : Int := if ldC cs v i < 0 then 0 else ldC cs v i
theorem bst_congr {f g : Int → Int} {xs : List Int} (h : ∀ i ∈ xs, f i = g i) : bst f xs = bst g xs := by
  have h9 : ∀ (a : Int × Int), xs.foldl (fun a i => if a.2 < f i then (i, f i) else a) a = xs.foldl (fun a i => if a.2 < g i then (i, g i) else a) a := by
    induction xs with
    | nil => intro a; rfl
    | cons x xs ih =>
      intro a
      rw [List.foldl_cons, List.foldl_cons, h x List.mem_cons_self]
      exact ih (fun i hi => h i (List.mem_cons_of_mem _ hi)) _
  exact h9 _
abbrev cEnc {n : Nat} (x : Place n) : Array Value := #[.int .i64 (x.1 : Int)]
theorem blk_own2 {β : Type} (B : Nat) (t : TypeId) (cs : Array Value) : Go.Own (fun (_ : β) W => Blk W B t cs) := fun s X Y row hs hg hrow =>
  (hg.block B (heap_lt hs) (fun e => by obtain ⟨o, ho, hc⟩ := hrow B e.symm; rw [show X.heap[B]? = _ from hs] at ho; cases ho; cases hc)).trans hs

set_option maxHeartbeats 1000000 in
theorem ables_in (n : Nat) (A : Option Addr) (m c : Nat) (l : Lift) (w : World) :
    CallsIn Fence.wide n Try.prog 28 #[.agg #[.slice A m c], .agg #[.string l.v.name, .int .i64 l.v.weight, .int .i64 l.v.fx, .int .i64 l.v.fy, .int .i64 l.v.tx, .int .i64 l.v.ty, .int .i64 l.v.height, .int .i64 l.v.deadline, .slice l.r.a l.r.n l.r.cap]] w fun e w' => e = .returned (.func (.func 58) #[] #[.pointer (some ⟨w.heap.size, 0, none⟩), .pointer (some ⟨w.heap.size + 1, 0, none⟩)]) ∧ w' = (w.alloc (.cells #[.slice A m c] 26)).alloc (.cells #[.string l.v.name, .int .i64 l.v.weight, .int .i64 l.v.fx, .int .i64 l.v.fy, .int .i64 l.v.tx, .int .i64 l.v.ty, .int .i64 l.v.height, .int .i64 l.v.deadline, .slice l.r.a l.r.n l.r.cap] 40) := by
  have hro : Fence.wide.round = none := rfl
  refine callsIn_of_wp Try.func28 rfl trivial ?_ hro
  simp only [Try.ntmps28, List.size_toArray, List.length_cons, List.length_nil, Nat.reduceAdd, Nat.reduceSub, Array.replicate_succ, Array.replicate_zero, List.push_toArray, List.append_toArray, List.nil_append, List.cons_append]
  gi_wp2
  go_ret
  exact ⟨rfl, rfl⟩

theorem ables_stops (n : Nat) (hn : 1 ≤ n) (Bs Bl n₀ lo : Nat) (A : Option Addr) (m c : Nat) (ps : List Crane) (cs : List CV) (hv : ps.map Crane.val = cs) (lf : Lift) (hm : m ≤ 1048576) (hp : ∀ p ∈ ps, p.wf) (hq : lf.v.name.size ≤ 9223372036854775807) (hok : siteOk cs = true) (hpl : plainB lf.v = true)
    (w : World) (hBs : w.cell? ⟨Bs, 0, none⟩ = some (.slice A m c)) (hBw : Bs < w.heap.size) (hL : LiftAt w Bl 0 lf) (hBl : Bl < w.heap.size) (hn₀ : n₀ ≤ w.heap.size) (h : Cranes w lo n₀ A m ps) :
    SeqStopsK Fence.wide n Try.prog 58 #[.pointer (some ⟨Bs, 0, none⟩), .pointer (some ⟨Bl, 0, none⟩)] (cEnc (n := m)) (BKL n₀ Bl) (fun ys => ys = abSub cs lf.v m m) (fun pre => ∃ k, k ≤ m ∧ pre = abSub cs lf.v m k) m w := fun l J Jx W hW hJ _ hY h0 =>
  ables1_in n hn l Bs Bl n₀ lo A m c ps cs hv lf hm hp hq hok hpl J Jx W.heap.size hJ hY W ((hW.cell (p := ⟨Bs, 0, none⟩) hBw).trans hBs) (hL.below hW hBl) (Nat.lt_of_lt_of_le hBl hW.size) (Nat.le_trans hn₀ hW.size) (h.below (hW.mono hn₀)) h0

set_option maxRecDepth 100000 in
set_option maxHeartbeats 3200000 in
theorem bestCraneC_yes (s : Row Crane) (cs : List CV) (hv : s.xs.map Crane.val = cs) (l : Lift) (w : World) (lo : Nat) (h : Cranes w lo w.heap.size s.a s.n s.xs) (hc : s.n ≤ s.cap) (hc2 : s.n ≤ 1048576) (hc3 : s.cap ≤ 9223372036854775807) (hp : ∀ p ∈ s.xs, p.wf) (hq : l.v.name.size ≤ 9223372036854775807) (h1 : siteOk cs = true) (h2 : plainB l.v = true) :
    Calls Try.prog 10 #[.agg #[.slice s.a s.n s.cap], .agg #[.string l.v.name, .int .i64 l.v.weight, .int .i64 l.v.fx, .int .i64 l.v.fy, .int .i64 l.v.tx, .int .i64 l.v.ty, .int .i64 l.v.height, .int .i64 l.v.deadline, .slice l.r.a l.r.n l.r.cap]] w fun e w' => e = .returned (.tuple #[.int .i64 (bcVal cs l.v), .int .i64 (bcCode cs l.v)]) ∧ Below w.heap.size w w' := by
  have HV := Lib.hid hv
  have HP := Lib.hid hp
  have HL : Hid (cs.length = s.n) := by show _ = _; rw [cv_len hv, h.len]
  obtain ⟨A, n, c, ps⟩ := s
  dsimp only at *
  obtain ⟨W, hW⟩ : ∃ W : World, W = (w.alloc (.cells #[.slice A n c] 26)).alloc (.cells #[.string l.v.name, .int .i64 l.v.weight, .int .i64 l.v.fx, .int .i64 l.v.fy, .int .i64 l.v.tx, .int .i64 l.v.ty, .int .i64 l.v.height, .int .i64 l.v.deadline, .slice l.r.a l.r.n l.r.cap] 40) := ⟨_, rfl⟩
  have B0 : Below w.heap.size w W := by rw [hW]; exact ((Below.refl _ _).alloc (Nat.le_refl _) _).alloc (by simp) _
  have P0 : Blk W w.heap.size 26 #[.slice A n c] := by rw [hW]; exact (Blk.new _ _ _).alloc _
  have Q0 : Blk W (w.heap.size + 1) 40 #[.string l.v.name, .int .i64 l.v.weight, .int .i64 l.v.fx, .int .i64 l.v.fy, .int .i64 l.v.tx, .int .i64 l.v.ty, .int .i64 l.v.height, .int .i64 l.v.deadline, .slice l.r.a l.r.n l.r.cap] := by rw [hW]; exact Blk.new_at rfl (by simp)
  have HC := Lib.hid (h.below B0)
  clear h
  clear hv hp
  have H1 := Lib.hid h1
  have H2 := Lib.hid h2
  have H : Hid (bcVal cs l.v = (if ableTo cs l.v n = [] then 0 else (bst (ldC cs l.v) (ableTo cs l.v n)).1) ∧ bcCode cs l.v = (if ableTo cs l.v n = [] then 3 else 0)) := by show _ ∧ _; unfold bcVal bcCode; rw [h1, h2, HL.out]; exact ⟨rfl, rfl⟩
  clear h1 h2
  refine (callsIn_wide (n := 5)).1 ?_
  have hro : Fence.wide.round = none := rfl
  refine callsIn_of_wp_marks Try.func10 rfl trivial ?_ hro
  simp only [Try.ntmps10, List.size_toArray, List.length_cons, List.length_nil, Nat.reduceAdd, Nat.reduceSub, Array.replicate_succ, Array.replicate_zero, List.push_toArray, List.append_toArray, List.nil_append, List.cons_append]
  gi_wp2_with fail
  rw [← hW]
  clear hW
  have c9 : W.cell? ⟨w.heap.size, 0, none⟩ = some (.slice A n c) := P0.cell 0
  gi_wp2_with fail
  refine ⟨trivial, ?_⟩
  refine (callsIn_wide.2 (validSiteC_any ⟨A, n, c, ps⟩ cs HV.out _ lo (HC.out.more B0.size) hc hc2 hc3 HP.out)).mono ?_
  rintro e w1 ⟨rfl, hb1⟩
  rw [H1.out]
  have B1 := B0.trans (hb1.mono B0.size)
  have P1 := P0.bel hb1
  have Q1 := Q0.bel hb1
  have HC1 := Lib.hid (HC.out.below (hb1.mono B0.size))
  clear c9 P0 Q0 hb1
  obtain ⟨d0, d1, d2, d3, d4, d5, d6, d7, d8⟩ := Lift.blk Q1
  gi_wp2_with fail
  refine ⟨trivial, ?_⟩
  refine (callsIn_wide.2 (plain_any l _ hq)).mono ?_
  rintro e w2 ⟨rfl, hb2⟩
  rw [H2.out]
  have B2 := B1.trans (hb2.mono B1.size)
  have P2 := P1.bel hb2
  have Q2 := Q1.bel hb2
  have HC2 := Lib.hid (HC1.out.below (hb2.mono B1.size))
  clear d0 d1 d2 d3 d4 d5 d6 d7 d8 P1 Q1 hb2
  obtain ⟨d0, d1, d2, d3, d4, d5, d6, d7, d8⟩ := Lift.blk Q2
  have c9 : w2.cell? ⟨w.heap.size, 0, none⟩ = some (.slice A n c) := P2.cell 0
  have hlt0 := P2.lt
  have hlt1 := Q2.lt
  gi_wp2_with fail
  obtain ⟨W3, hW3⟩ : ∃ W3 : World, W3 = (w2.alloc (.cells #[.int .i64 (-1)] 3)).alloc (.cells #[.int .i64 (-1)] 2) := ⟨_, rfl⟩
  have hb3 : Below w2.heap.size w2 W3 := by rw [hW3]; exact ((Below.refl _ _).alloc (Nat.le_refl _) _).alloc (by simp) _
  have bF : Boxed W3 w2.heap.size 3 (.int .i64 (-1)) := by rw [hW3]; exact (Boxed.new w2 3 _).alloc _
  have bG : Boxed W3 (w2.heap.size + 1) 2 (.int .i64 (-1)) := by
    rw [hW3]
    have := Boxed.new (w2.alloc (.cells #[.int .i64 (-1)] 3)) 2 (.int .i64 (-1))
    rwa [World.size_alloc] at this
  have hs3 : W3.heap.size = w2.heap.size + 2 := by rw [hW3]; simp
  rw [← hW3]
  clear hW3 c9 d0 d1 d2 d3 d4 d5 d6 d7 d8
  refine ⟨trivial, ?_⟩
  refine (ables_in _ A n c l _).mono ?_
  rintro e w4 ⟨rfl, hw4⟩
  have hb4 : Below W3.heap.size W3 w4 := by rw [hw4]; exact ((Below.refl _ _).alloc (Nat.le_refl _) _).alloc (by simp) _
  have P4 : Blk w4 W3.heap.size 26 #[.slice A n c] := by rw [hw4]; exact (Blk.new _ _ _).alloc _
  have Q4 : Blk w4 (W3.heap.size + 1) 40 #[.string l.v.name, .int .i64 l.v.weight, .int .i64 l.v.fx, .int .i64 l.v.fy, .int .i64 l.v.tx, .int .i64 l.v.ty, .int .i64 l.v.height, .int .i64 l.v.deadline, .slice l.r.a l.r.n l.r.cap] := by rw [hw4]; exact Blk.new_at rfl (by simp)
  have hs4 : w4.heap.size = W3.heap.size + 2 := by rw [hw4]; simp
  have bF4 : Boxed w4 w2.heap.size 3 (.int .i64 (-1)) := by rw [hw4]; exact (bF.alloc _).alloc _
  have bG4 : Boxed w4 (w2.heap.size + 1) 2 (.int .i64 (-1)) := by rw [hw4]; exact (bG.alloc _).alloc _
  clear hw4 bF bG
  obtain ⟨G, hG⟩ : ∃ G, w2.heap.size = G := ⟨_, rfl⟩
  rw [hG] at hs3 bF4 bG4 hb3 ⊢
  have hGw : w.heap.size + 1 < G := by rw [← hG]; exact hlt1
  have hG0 : w2.heap.size ≤ G := Nat.le_of_eq hG
  have HB4 : Below G w2 w4 := hb3.trans (hb4.mono (by omega))
  have B4 : Below w.heap.size w w4 := B2.trans (HB4.mono (by omega))
  have PL := P2.below HB4 (by omega)
  have QL := Q2.below HB4 (by omega)
  have HC4 := Lib.hid (HC2.out.below (HB4.mono (by omega)))
  have hLA := LiftAt.blk Q4
  have hBs4 : w4.cell? ⟨W3.heap.size, 0, none⟩ = some (.slice A n c) := P4.cell 0
  rw [hs3] at hLA hBs4 hs4 ⊢
  clear hG B0 B1 P2 Q2 P4 Q4 hb3 hb4 HC HC1 HC2
  have HPV := Lib.hid (plainB_parts H2.out)
  have hn1 : n ≤ 1048576 := by omega
  gi_wp2_with fail
  refine wpIn_rangeFunc_ownH hro (by omega : 1 ≤ 5) (gf := 58) (lb := #[.pointer (some ⟨G + 2, 0, none⟩), .pointer (some ⟨G + 2 + 1, 0, none⟩)]) rfl trivial (enters_of Try.func58 (by kernel_rfl) rfl)
    (ables_stops (5 - 1) (by omega) (G + 2) (G + 2 + 1) G lo A n c ps cs HV.out l hn1 HP.out hq H1.out H2.out w4 hBs4 (by omega) hLA (by omega) (by omega) ((HC4.out).more (by omega)))
    (fun h k => h.trans k) (fun W l o o' hl ho hc hw => ⟨belowK_b (by omega) W l o o' hl ho hc hw, (grownBy_putObj' W l o').block _ (by have := (Array.getElem?_eq_some_iff.1 ho).1; omega) (fun e => by cases e; omega)⟩) (Below.refl _ _) (fun _ => rfl)
    (fun pre W => (Boxed W G 3 (.int .i64 (bst (ldM cs l.v) (pre.map fun x => ((x.1 : Nat) : Int))).1) ∧ Boxed W (G + 1) 2 (.int .i64 (bst (ldM cs l.v) (pre.map fun x => ((x.1 : Nat) : Int))).2)) ∧ Below G w4 W)
    (fun _ _ _ => False)
    (OwnFrom.and (OwnFrom.and (Own.from (boxed_own G 3 _) _) (Own.from (boxed_own (G + 1) 2 _) _)) (ownFrom_below (by omega) (by omega)))
    (fun _ _ _ _ _ hs _ _ => hs)
    ⟨⟨bF4, bG4⟩, Below.refl _ _⟩
    (fun x a' W => a' = { tmps := #[.agg #[.slice A n c], .agg #[.string l.v.name, .int .i64 l.v.weight, .int .i64 l.v.fx, .int .i64 l.v.fy, .int .i64 l.v.tx, .int .i64 l.v.ty, .int .i64 l.v.height, .int .i64 l.v.deadline, .slice l.r.a l.r.n l.r.cap], .pointer (some ⟨w.heap.size, 0, none⟩), .pointer (some ⟨w.heap.size + 1, 0, none⟩), .int .i64 0, .int .i64 0, .pointer (some ⟨G, 0, none⟩), .pointer (some ⟨G + 1, 0, none⟩), .int .i64 (x.1 : Int), undef, undef, .agg #[.slice A n c], .bool true, .bool false, .bool false, .agg #[.string l.v.name, .int .i64 l.v.weight, .int .i64 l.v.fx, .int .i64 l.v.fy, .int .i64 l.v.tx, .int .i64 l.v.ty, .int .i64 l.v.height, .int .i64 l.v.deadline, .slice l.r.a l.r.n l.r.cap], .bool true, .bool false, .bool false, .agg #[.slice A n c], .agg #[.string l.v.name, .int .i64 l.v.weight, .int .i64 l.v.fx, .int .i64 l.v.fy, .int .i64 l.v.tx, .int .i64 l.v.ty, .int .i64 l.v.height, .int .i64 l.v.deadline, .slice l.r.a l.r.n l.r.cap], .func (.func 58) #[] #[.pointer (some ⟨G + 2, 0, none⟩), .pointer (some ⟨G + 2 + 1, 0, none⟩)], .int .i64 (x.1 : Int), undef, undef, undef, undef, undef, undef, undef, undef, undef, undef, undef, undef, undef, undef, undef, undef, undef, undef], defers := [] })
    (fun x a' _ X Y row hs hg hr => hs)
    ?assign ?body ?done ?stop
  case assign =>
    rintro l' pre x W K ⟨⟨bF, bG⟩, hB⟩ hK
    gi_wp2
    exact hK _ _ (KeepsFrom.refl _ _) ⟨Below.refl _ _, rfl⟩ ⟨⟨bF, bG⟩, hB⟩ rfl
  case body =>
    rintro l' pre x a' W hlr ⟨r, hr⟩ ⟨⟨bF, bG⟩, hB⟩ rfl hlt
    have hmx : Try.prog.follows .mixedOrders = true := by kernel_rfl
    have hd : 1 ≤ 5 - 1 - 1 := by omega
    obtain ⟨j, hj⟩ := x
    dsimp only
    obtain ⟨b, off, p, eA, hx, _, hbl, hrow, k0, k1, k2, k3, k4, k5, k6⟩ := Crane.at (HC4.out.below (hB.mono (by omega))) hj
    have hv1 := cv_at HV.out hx
    have hpw := HP.out p (List.mem_of_getElem? hx)
    obtain ⟨LD, hLD⟩ : ∃ LD, LD = (if ldF p.val l.v < 0 then 0 else ldF p.val l.v) := ⟨_, rfl⟩
    obtain ⟨q0, hq0⟩ : ∃ q0, q0 = decide (0 ≤ ldF p.val l.v) := ⟨_, rfl⟩
    have ef : ldM cs l.v (j : Int) = LD := by unfold ldM; rw [ldC_of hv1, hLD]
    have HRET : Hid (ldRet (ldF p.val l.v) = .tuple #[.int .i64 LD, .bool q0]) := by show _ = _; rw [hLD, hq0]; rfl
    clear hLD hq0
    have hst := bst_snoc (ldM cs l.v) (pre.map fun x => ((x.1 : Nat) : Int)) (j : Int)
    rw [ef] at hst
    have HPRE : Hid ((pre ++ [(⟨j, hj⟩ : Place n)]).map (fun x => ((x.1 : Nat) : Int)) = pre.map (fun x => ((x.1 : Nat) : Int)) ++ [(j : Int)]) := by show _ = _; simp
    obtain ⟨u, hu⟩ : ∃ u, bst (ldM cs l.v) (pre.map fun x => ((x.1 : Nat) : Int)) = u := ⟨_, rfl⟩
    rw [hu] at hst bF bG
    obtain ⟨u1, u2⟩ := u
    dsimp only at hst bF bG
    have HST := Lib.hid hst
    have hbs := hB.size
    have hjn : (j : Int) < (n : Int) := by omega
    have hj0 : (0 : Int) ≤ (j : Int) := by omega
    have hbW : b < W.heap.size := by omega
    have HROW := Lib.hid (hrow.more (hi' := W.heap.size) (by omega))
    obtain ⟨d0, d1, d2, d3, d4, d5, d6, d7, d8⟩ := Lift.blk (QL.below hB (by omega))
    have c9 : W.cell? ⟨w.heap.size, 0, none⟩ = some (.slice A n c) := (PL.below hB (by omega)).cell 0
    rw [eA] at c9
    have HBW := Lib.hid hB
    have HCO := Lib.hid (siteOk_at H1.out hv1)
    have BF := Lib.hid bF
    have BG := Lib.hid bG
    clear hx hrow hv1 hst hu ef hB bF bG hr
    have HFIN : Hid (∀ w5, Below W.drew.heap.size W.drew w5 → (LD ≤ u2 → KeepsFrom w4.heap.size W w5 ∧ BKL G (G + 2 + 1) W w5 ∧ (Boxed w5 G 3 (.int .i64 (bst (ldM cs l.v) ((pre ++ [(⟨j, hj⟩ : Place n)]).map fun x => ((x.1 : Nat) : Int))).1) ∧ Boxed w5 (G + 1) 2 (.int .i64 (bst (ldM cs l.v) ((pre ++ [(⟨j, hj⟩ : Place n)]).map fun x => ((x.1 : Nat) : Int))).2)) ∧ Below G w4 w5) ∧
        (u2 < LD → ∀ Wf, Wf = (w5.setCell ⟨G, 0, none⟩ (.int .i64 (j : Int))).setCell ⟨G + 1, 0, none⟩ (.int .i64 LD) → KeepsFrom w4.heap.size W Wf ∧ BKL G (G + 2 + 1) W Wf ∧ (Boxed Wf G 3 (.int .i64 (bst (ldM cs l.v) ((pre ++ [(⟨j, hj⟩ : Place n)]).map fun x => ((x.1 : Nat) : Int))).1) ∧ Boxed Wf (G + 1) 2 (.int .i64 (bst (ldM cs l.v) ((pre ++ [(⟨j, hj⟩ : Place n)]).map fun x => ((x.1 : Nat) : Int))).2)) ∧ Below G w4 Wf)) := by
      intro w5 hb6
      have hb5 : Below W.heap.size W w5 := ((Below.refl _ _).drew).trans hb6
      have hk5 : KeepsOthers W w5 := KeepsOthers.of_grownBy (grownOf hb5 none) (by intro j o h; cases h)
      have hg5 : W.grownBy w5 none := grownOf hb5 none
      have bF5 := BF.out.kept hg5 (by simp)
      have bG5 := BG.out.kept hg5 (by simp)
      have hbl5 : w5.heap[G + 2 + 1]? = W.heap[G + 2 + 1]? := hb5.block _ (by omega)
      have hB5 : Below G W w5 := hb5.mono (by omega)
      rw [HPRE.out, HST.out]
      refine ⟨fun hle => ?_, fun hgt Wf hWf => ?_⟩
      · rw [if_neg (by omega)]
        exact ⟨hk5.from _, ⟨hB5, hbl5⟩, ⟨bF5, bG5⟩, HBW.out.trans hB5⟩
      · rw [if_pos hgt]
        subst hWf
        have hBf := (hB5.setCell (p := ⟨G, 0, none⟩) (Nat.le_refl _) (.int .i64 (j : Int))).setCell (p := ⟨G + 1, 0, none⟩) (Nat.le_succ _) (.int .i64 LD)
        exact ⟨((hk5.trans (KeepsOthers.setCell _ _ _)).trans (KeepsOthers.setCell _ _ _)).from _, ⟨hBf, (Below.heap_setCell _ _ _ _ (by dsimp only; omega)).trans ((Below.heap_setCell _ _ _ _ (by dsimp only; omega)).trans hbl5)⟩, ⟨(bF5.set _).other (by omega) _, (bG5.other (by omega) _).set _⟩, HBW.out.trans hBf⟩
    have hfn : Fence.wide.fn 34 := trivial
    have HCALL : Hid (CallsIn (Fence.wide.inRound l') 2 Try.prog 34 #[.agg #[.string p.v.name, .int .i64 p.v.ax, .int .i64 p.v.ay, .int .i64 p.v.height, .int .i64 p.v.jib, .int .i64 p.v.back, .slice p.r.a p.r.n p.r.cap], .agg #[.string l.v.name, .int .i64 l.v.weight, .int .i64 l.v.fx, .int .i64 l.v.fy, .int .i64 l.v.tx, .int .i64 l.v.ty, .int .i64 l.v.height, .int .i64 l.v.deadline, .slice l.r.a l.r.n l.r.cap]] W.drew fun e w' => e = .returned (.tuple #[.int .i64 LD, .bool q0]) ∧ Below W.drew.heap.size W.drew w') :=
      CallsIn.inRound l' (callsIn_wide.2 ((loadFor_any p l W.drew lo (HROW.out.below ((Below.refl _ _).drew)) hpw.n HCO.out H2.out).mono fun e w' h => by rw [← HRET.out]; exact h))
    have HB5 : Hid (∀ w5, Below W.drew.heap.size W.drew w5 → w5.cell? ⟨G, 0, none⟩ = some (.int .i64 u1) ∧ w5.frozen? ⟨G, 0, none⟩ = false ∧ w5.cell? ⟨G + 1, 0, none⟩ = some (.int .i64 u2) ∧ w5.frozen? ⟨G + 1, 0, none⟩ = false) := by
      intro w5 hb6
      have hb5 : Below W.heap.size W w5 := ((Below.refl _ _).drew).trans hb6
      have hg5 : W.grownBy w5 none := grownOf hb5 none
      have bF5 := BF.out.kept hg5 (by simp)
      have bG5 := BG.out.kept hg5 (by simp)
      exact ⟨bF5.cell, bF5.frozen, bG5.cell, bG5.frozen⟩
    gi_wp2
    by_cases hgt : u2 < LD
    · gi_region_with_o (gi_at_call 34; refine HCALL.out.mono ?_; rintro e w5 ⟨rfl, hb5⟩; obtain ⟨f0, f1, f2, f3⟩ := HB5.out w5 hb5)
      all_goals gi_wp2
      all_goals exact (HFIN.out w5 hb5).2 hgt _ rfl
    · gi_region_with_o (gi_at_call 34; refine HCALL.out.mono ?_; rintro e w5 ⟨rfl, hb5⟩; obtain ⟨f0, f1, f2, f3⟩ := HB5.out w5 hb5)
      all_goals gi_wp2
      all_goals exact (HFIN.out w5 hb5).1 (by omega)
  case done =>
    rintro D ys W hD rfl ⟨⟨bF, bG⟩, hB⟩ hK
    rw [abSub_ints cs l.v n n (Nat.le_refl _), bst_congr (show ∀ i ∈ ableTo cs l.v n, ldM cs l.v i = ldC cs l.v i from fun i hi => by unfold ldM; rw [if_neg (by have := able_ld HPV.out hi; omega)])] at bF bG
    have cF := bF.cell
    have HBW := Lib.hid hB
    have HB9 := Lib.hid (B4.trans (hB.mono (by omega)))
    by_cases hE : ableTo cs l.v n = []
    · rw [hE] at cF
      have H9 : Hid (bcVal cs l.v = 0 ∧ bcCode cs l.v = 3) := by show _ ∧ _; rw [H.out.1, H.out.2, if_pos hE, if_pos hE]; exact ⟨rfl, rfl⟩
      have cF2 : W.cell? ⟨G, 0, none⟩ = some (.int .i64 (-1)) := cF
      clear cF bF bG hB hE
      gi_wp2
      refine ⟨by simp, .inl ⟨_, _, rfl, run_takeDeferred hK, ?_⟩⟩
      refine ⟨_, results_tmp2 rfl _ _ _, ?_⟩
      exact ⟨by rw [H9.out.1, H9.out.2]; rfl, HB9.out.trans (belowK_b (w := w) (Nat.le_refl _) W D _ (.deferred none) (by omega) hK rfl rfl)⟩
    · have hF : ∀ i ∈ ableTo cs l.v n, 0 ≤ ldC cs l.v i := fun i hi => able_ld HPV.out hi
      obtain ⟨h1, _, _⟩ := bst_mem hF rfl (ableTo cs l.v n).length (List.length_pos_iff.2 hE) (Nat.le_refl _)
      rw [List.take_length] at h1
      obtain ⟨j, hj, ej, _⟩ := able_mem h1
      rw [ej] at cF
      have H9 : Hid (bcVal cs l.v = (j : Int) ∧ bcCode cs l.v = 0) := by show _ ∧ _; rw [H.out.1, H.out.2, if_neg hE, if_neg hE, ej]; exact ⟨rfl, rfl⟩
      have hj0 : (0 : Int) ≤ (j : Int) := by omega
      clear bF bG hB hE h1 hF ej
      gi_wp2
      refine ⟨by simp, .inl ⟨_, _, rfl, run_takeDeferred hK, ?_⟩⟩
      refine ⟨_, results_tmp2 rfl _ _ _, ?_⟩
      exact ⟨by rw [H9.out.1, H9.out.2]; rfl, HB9.out.trans (belowK_b (w := w) (Nat.le_refl _) W D _ (.deferred none) (by omega) hK rfl rfl)⟩
  case stop =>
    rintro D c pre W _ _ h _
    exact h.elim

set_option maxRecDepth 100000 in
set_option maxHeartbeats 1600000 in
theorem bestCraneC_any (s : Row Crane) (cs : List CV) (hv : s.xs.map Crane.val = cs) (l : Lift) (w : World) (lo : Nat) (h : Cranes w lo w.heap.size s.a s.n s.xs) (hc : s.n ≤ s.cap) (hc2 : s.n ≤ 1048576) (hc3 : s.cap ≤ 9223372036854775807) (hp : ∀ p ∈ s.xs, p.wf) (hq : l.v.name.size ≤ 9223372036854775807) :
    Calls Try.prog 10 #[.agg #[.slice s.a s.n s.cap], .agg #[.string l.v.name, .int .i64 l.v.weight, .int .i64 l.v.fx, .int .i64 l.v.fy, .int .i64 l.v.tx, .int .i64 l.v.ty, .int .i64 l.v.height, .int .i64 l.v.deadline, .slice l.r.a l.r.n l.r.cap]] w fun e w' => e = .returned (.tuple #[.int .i64 (bcVal cs l.v), .int .i64 (bcCode cs l.v)]) ∧ Below w.heap.size w w' := by
  have HV := Lib.hid hv
  have HP := Lib.hid hp
  have HL : Hid (cs.length = s.n) := by show _ = _; rw [cv_len hv, h.len]
  obtain ⟨A, n, c, ps⟩ := s
  dsimp only at *
  obtain ⟨W, hW⟩ : ∃ W : World, W = (w.alloc (.cells #[.slice A n c] 26)).alloc (.cells #[.string l.v.name, .int .i64 l.v.weight, .int .i64 l.v.fx, .int .i64 l.v.fy, .int .i64 l.v.tx, .int .i64 l.v.ty, .int .i64 l.v.height, .int .i64 l.v.deadline, .slice l.r.a l.r.n l.r.cap] 40) := ⟨_, rfl⟩
  have B0 : Below w.heap.size w W := by rw [hW]; exact ((Below.refl _ _).alloc (Nat.le_refl _) _).alloc (by simp) _
  have P0 : Blk W w.heap.size 26 #[.slice A n c] := by rw [hW]; exact (Blk.new _ _ _).alloc _
  have Q0 : Blk W (w.heap.size + 1) 40 #[.string l.v.name, .int .i64 l.v.weight, .int .i64 l.v.fx, .int .i64 l.v.fy, .int .i64 l.v.tx, .int .i64 l.v.ty, .int .i64 l.v.height, .int .i64 l.v.deadline, .slice l.r.a l.r.n l.r.cap] := by rw [hW]; exact Blk.new_at rfl (by simp)
  have HC := Lib.hid (h.next B0)
  clear hv hp
  cases h1 : siteOk cs
  · have H1 := Lib.hid h1
    have H : Hid (bcVal cs l.v = 0 ∧ bcCode cs l.v = 1) := by show _ ∧ _; unfold bcVal bcCode; rw [h1]; exact ⟨rfl, rfl⟩
    clear h1
    go_enter Try.func10, Try.ntmps10
    go_wp2_with fail
    rw [← hW]
    clear hW
    have c9 : W.cell? ⟨w.heap.size, 0, none⟩ = some (.slice A n c) := P0.cell 0
    go_wp2_with fail
    refine (validSiteC_any ⟨A, n, c, ps⟩ cs HV.out _ lo HC.out hc hc2 hc3 HP.out).mono ?_
    rintro e w1 ⟨rfl, hb1⟩
    rw [H1.out]
    have B1 := B0.trans (hb1.mono B0.size)
    have P1 := P0.bel hb1
    have Q1 := Q0.bel hb1
    have HC1 := Lib.hid (HC.out.next hb1)
    clear c9 P0 Q0 hb1
    go_wp2
    go_ret2
    exact ⟨by rw [H.out.1, H.out.2]; rfl, B1⟩
  · have H1 := Lib.hid h1
    cases h2 : plainB l.v
    · have H2 := Lib.hid h2
      have H : Hid (bcVal cs l.v = 0 ∧ bcCode cs l.v = 1) := by show _ ∧ _; unfold bcVal bcCode; rw [h1, h2]; exact ⟨rfl, rfl⟩
      clear h1 h2
      go_enter Try.func10, Try.ntmps10
      go_wp2_with fail
      rw [← hW]
      clear hW
      have c9 : W.cell? ⟨w.heap.size, 0, none⟩ = some (.slice A n c) := P0.cell 0
      go_wp2_with fail
      refine (validSiteC_any ⟨A, n, c, ps⟩ cs HV.out _ lo HC.out hc hc2 hc3 HP.out).mono ?_
      rintro e w1 ⟨rfl, hb1⟩
      rw [H1.out]
      have B1 := B0.trans (hb1.mono B0.size)
      have P1 := P0.bel hb1
      have Q1 := Q0.bel hb1
      have HC1 := Lib.hid (HC.out.next hb1)
      clear c9 P0 Q0 hb1
      obtain ⟨d0, d1, d2, d3, d4, d5, d6, d7, d8⟩ := Lift.blk Q1
      go_wp2_with fail
      refine (plain_any l _ hq).mono ?_
      rintro e w2 ⟨rfl, hb2⟩
      rw [H2.out]
      have B2 := B1.trans (hb2.mono B1.size)
      have P2 := P1.bel hb2
      have Q2 := Q1.bel hb2
      have HC2 := Lib.hid (HC1.out.next hb2)
      clear d0 d1 d2 d3 d4 d5 d6 d7 d8 P1 Q1 hb2
      go_wp2
      go_ret2
      exact ⟨by rw [H.out.1, H.out.2]; rfl, B2⟩
    · exact bestCraneC_yes ⟨A, n, c, ps⟩ cs HV.out l w lo h hc hc2 hc3 HP.out hq h1 h2
theorem bestCrane_any (s : Row Crane) (cs : List CV) (hv : s.xs.map Crane.val = cs) (l : Lift) (w : World) (lo : Nat) (h : Cranes w lo w.heap.size s.a s.n s.xs) (hc : s.n ≤ s.cap) (hc2 : s.cap ≤ 1048576) (hp : ∀ p ∈ s.xs, p.wf) (hq : l.v.name.size ≤ 9223372036854775807) :
    Calls Try.prog 10 #[.agg #[.slice s.a s.n s.cap], .agg #[.string l.v.name, .int .i64 l.v.weight, .int .i64 l.v.fx, .int .i64 l.v.fy, .int .i64 l.v.tx, .int .i64 l.v.ty, .int .i64 l.v.height, .int .i64 l.v.deadline, .slice l.r.a l.r.n l.r.cap]] w fun e w' => e = .returned (.tuple #[.int .i64 (bcVal cs l.v), .int .i64 (bcCode cs l.v)]) ∧ Below w.heap.size w w' := bestCraneC_any s cs hv l w lo h hc (by omega) (by omega) hp hq
end Go.Proofs.Ytnidnmbicnhflaa
