/- Made by merge.py of XAblesOf, XSpecBest. -/
import Derived.Test.YtnidnmbicnhflaaSites
import Derived.Test.YtnidnmbicnhflaaAbles4
import Derived.Test.YtnidnmbicnhflaaSets
import Derived.Test.YtnidnmbicnhflaaReadyLifts
import Derived.Test.YtnidnmbicnhflaaOwnAt
import Derived.Lib.QuietBelow
import Derived.BigQuiet
/- XAblesOf: AblesOf, of the program and of the reference: both hand back abXs and abCode. -/
namespace Go.Proofs.Ytnidnmbicnhflaa
open Go.RowKit Go.Sort
set_option linter.unusedVariables false

def ableAt (cs : List CV) (v : LiftV) (i : Nat) : Bool := match cs[i]? with | some c => ableB c v | none => false
theorem ableAt_of {cs : List CV} {v : LiftV} {i : Nat} {c : CV} (h : cs[i]? = some c) : ableAt cs v i = ableB c v := by simp only [ableAt, h]
def ableTo (cs : List CV) (v : LiftV) (k : Nat) : List Int := ((List.range k).filter (ableAt cs v)).map fun j : Nat => (j : Int)
theorem ableTo_yes {cs : List CV} {v : LiftV} {k : Nat} {c : CV} (hc : cs[k]? = some c) (h : ableB c v = true) : ableTo cs v (k + 1) = ableTo cs v k ++ [(k : Int)] := by
  unfold ableTo; rw [List.range_succ, List.filter_append, List.map_append]; simp [ableAt_of hc, h]
theorem ableTo_no {cs : List CV} {v : LiftV} {k : Nat} {c : CV} (hc : cs[k]? = some c) (h : ableB c v = false) : ableTo cs v (k + 1) = ableTo cs v k := by
  unfold ableTo; rw [List.range_succ, List.filter_append, List.map_append]; simp [ableAt_of hc, h]
theorem ableTo_len (cs : List CV) (v : LiftV) (k : Nat) : (ableTo cs v k).length ≤ k := by
  unfold ableTo; rw [List.length_map]; exact Nat.le_trans (List.length_filter_le _ _) (by simp)
def abXs (cs : List CV) (v : LiftV) : List Int := if siteOk cs then (if plainB v then ableTo cs v cs.length else []) else []
def abCode (cs : List CV) (v : LiftV) : Int := if siteOk cs then (if plainB v then 0 else 1) else 1
theorem abXs_len (cs : List CV) (v : LiftV) : (abXs cs v).length ≤ cs.length := by
  unfold abXs; split
  · split
    · exact ableTo_len _ _ _
    · simp
  · simp

set_option maxRecDepth 100000 in
set_option maxHeartbeats 800000 in
theorem ablesClo_any (i : Int) (p : Crane) (l : Lift) (Lb : Nat) (w : World) (lo : Nat) (hr : Arr ChartStep.cs 2 w lo w.heap.size p.r.a p.r.n p.r.xs) (hn : p.r.n ≤ 9223372036854775807) (hp : p.v.name.size ≤ 9223372036854775807) (hq : l.v.name.size ≤ 9223372036854775807) (hok : craneOk p.val = true) (hpl : plainB l.v = true) (hL : LiftAt w Lb 0 l) (hLb : Lb < w.heap.size) :
    Calls Try.prog 32 #[.int .i64 i, .agg #[.string p.v.name, .int .i64 p.v.ax, .int .i64 p.v.ay, .int .i64 p.v.height, .int .i64 p.v.jib, .int .i64 p.v.back, .slice p.r.a p.r.n p.r.cap], .pointer (some ⟨Lb, 0, none⟩)] w fun e w' => e = .returned (.bool (ableB p.val l.v)) ∧ Below w.heap.size w w' := by
  obtain ⟨d0, d1, d2, d3, d4, d5, d6, d7, d8⟩ := hL
  have hb := (Below.refl w.heap.size w).alloc (Nat.le_refl _) (.cells #[.string p.v.name, .int .i64 p.v.ax, .int .i64 p.v.ay, .int .i64 p.v.height, .int .i64 p.v.jib, .int .i64 p.v.back, .slice p.r.a p.r.n p.r.cap] 47)
  have HB := Lib.hid hb
  have e0 := (hb.cell (p := ⟨Lb, 0, none⟩) hLb).trans d0
  have e1 := (hb.cell (p := ⟨Lb, 1, none⟩) hLb).trans d1
  have e2 := (hb.cell (p := ⟨Lb, 2, none⟩) hLb).trans d2
  have e3 := (hb.cell (p := ⟨Lb, 3, none⟩) hLb).trans d3
  have e4 := (hb.cell (p := ⟨Lb, 4, none⟩) hLb).trans d4
  have e5 := (hb.cell (p := ⟨Lb, 5, none⟩) hLb).trans d5
  have e6 := (hb.cell (p := ⟨Lb, 6, none⟩) hLb).trans d6
  have e7 := (hb.cell (p := ⟨Lb, 7, none⟩) hLb).trans d7
  have e8 := (hb.cell (p := ⟨Lb, 8, none⟩) hLb).trans d8
  clear hb d0 d1 d2 d3 d4 d5 d6 d7 d8
  go_enter Try.func32, Try.ntmps32
  go_wp2_with fail
  refine (craneCan_any p l _ lo lo (hr.below HB.out |>.more HB.out.size) hn hp hq hok hpl).mono ?_
  rintro e w1 ⟨rfl, hb1⟩
  go_wp2
  go_ret
  exact ⟨rfl, HB.out.trans (hb1.mono HB.out.size)⟩

set_option maxRecDepth 100000 in
set_option maxHeartbeats 1600000 in
theorem ablesThat_any (s : Row Crane) (cs : List CV) (hv : s.xs.map Crane.val = cs) (l : Lift) (Lb : Nat) (w : World) (lo : Nat) (h : Cranes w lo w.heap.size s.a s.n s.xs) (hn : s.n ≤ 1048576) (hp : ∀ p ∈ s.xs, p.wf) (hq : l.v.name.size ≤ 9223372036854775807) (hok : siteOk cs = true) (hpl : plainB l.v = true) (hL : LiftAt w Lb 0 l) (hLb : Lb < w.heap.size) :
    Calls Try.prog 31 #[.agg #[.slice s.a s.n s.cap], .func (.func 32) #[] #[.pointer (some ⟨Lb, 0, none⟩)]] w (RetL ic 1 2 (ableTo cs l.v s.n) w) := by
  have HV := Lib.hid hv
  have HP := Lib.hid hp
  have HO := Lib.hid hok
  have HPL := Lib.hid hpl
  have HLL := Lib.hid hL
  obtain ⟨A, n, c, ps⟩ := s
  dsimp only at *
  have hb := (Below.refl w.heap.size w).alloc (Nat.le_refl _) (.cells #[.slice A n c] 26)
  have HB := Lib.hid hb
  have HC := Lib.hid h
  clear hv hp h hok hpl hL hb
  go_enter Try.func31, Try.ntmps31
  go_wp2
  go_loopw [5, 11] (fun v i wr => ∃ k : Nat, k ≤ n ∧ i = .int .i64 k ∧ Grow ic 1 wr w.heap.size 2 v (ableTo cs l.v k) ∧ Below w.heap.size w wr) (fun _ i _ => n - (intOf i).toNat)
  case atStart => exact ⟨0, Nat.zero_le _, rfl, Grow.nil _ _ _, HB.out⟩
  case round =>
    obtain ⟨k, hk, rfl, hgr, hbw⟩ := hrel
    have hll := ableTo_len cs l.v k
    have hsz := hbw.size
    by_cases hlt : k < n
    · obtain ⟨b, off, p, eA, hx, _, hbl, hrow, c0, c1, c2, c3, c4, c5, c6⟩ := Crane.at (HC.out.below hbw) hlt
      have HX := Lib.hid (cv_at HV.out hx)
      have hpw := HP.out p (List.mem_of_getElem? hx)
      have hkn : (k : Int) < (n : Int) := by omega
      have hk0 : (0 : Int) ≤ (k : Int) := by omega
      have hb2 := (Below.refl wr.heap.size wr).alloc (Nat.le_refl _) (.cells #[.string p.v.name, .int .i64 p.v.ax, .int .i64 p.v.ay, .int .i64 p.v.height, .int .i64 p.v.jib, .int .i64 p.v.back, .slice p.r.a p.r.n p.r.cap] 47)
      have HB2 := Lib.hid hb2
      have HG2 := Lib.hid (hgr.bel hb2)
      have HW2 := Lib.hid (hbw.trans (hb2.mono hsz))
      have HROW := Lib.hid ((hrow.below (hb2.mono hsz)).more (hi' := (wr.alloc (.cells #[.string p.v.name, .int .i64 p.v.ax, .int .i64 p.v.ay, .int .i64 p.v.height, .int .i64 p.v.jib, .int .i64 p.v.back, .slice p.r.a p.r.n p.r.cap] 47)).heap.size) (by have := hb2.size; omega))
      have hs2 : (wr.alloc (.cells #[.string p.v.name, .int .i64 p.v.ax, .int .i64 p.v.ay, .int .i64 p.v.height, .int .i64 p.v.jib, .int .i64 p.v.back, .slice p.r.a p.r.n p.r.cap] 47)).heap.size = wr.heap.size + 1 := by simp
      have HS2 := Lib.hid hs2
      clear hx hrow hgr hbw hb2 hs2
      cases hab : ableB p.val l.v
      · have HA := Lib.hid hab
        clear hab
        go_wp2_with fail
        refine (ablesClo_any (k : Int) p l Lb _ lo HROW.out hpw.n hpw.v.name hq (siteOk_at HO.out HX.out) HPL.out (HLL.out.below HW2.out hLb) (by have := HW2.out.size; omega)).mono ?_
        rintro e w3 ⟨rfl, hb3⟩
        rw [HA.out]
        have HB3 := Lib.hid hb3
        clear c0 c1 c2 c3 c4 c5 c6 hb3
        go_wp2
        rw [← eA]
        go_roundw
        case rel => exact ⟨k + 1, by omega, by go_num, by rw [ableTo_no HX.out HA.out]; exact HG2.out.bel HB3.out, HW2.out.trans (HB3.out.mono HW2.out.size)⟩
        case measure => simp [intOf]; omega
      · have HA := Lib.hid hab
        clear hab
        go_wp2_with fail
        refine (ablesClo_any (k : Int) p l Lb _ lo HROW.out hpw.n hpw.v.name hq (siteOk_at HO.out HX.out) HPL.out (HLL.out.below HW2.out hLb) (by have := HW2.out.size; omega)).mono ?_
        rintro e w3 ⟨rfl, hb3⟩
        rw [HA.out]
        have HB3 := Lib.hid hb3
        have HG3 := Lib.hid (HG2.out.bel hb3)
        have HW3 := Lib.hid (HW2.out.trans (hb3.mono HW2.out.size))
        have hs3 := HW3.out.size
        clear c0 c1 c2 c3 c4 c5 c6 hb3
        go_wp2_with ((at_builtin; refine wpList_snoc _ rfl _ _ 33 rfl w.heap.size 2 (.int .i64 0) 8 Try.underlying33 infoInt rfl (by omega) _ _ (((k : Nat) : Int)) rfl (HG3.out.alloc _) _ _ rfl (heap_alloc_new _ _) rfl rfl (ic_one _) (by omega) (by omega) (by simp; omega) ?_; intro v' w5 hg5 hgr5))
        rw [← eA]
        go_roundw
        case rel => exact ⟨k + 1, by omega, by go_num, by rw [ableTo_yes HX.out HA.out]; exact hg5, (HG3.out.alloc _).below (HW3.out.alloc hs3 _) hgr5 (Nat.le_refl _) (by simp; omega)⟩
        case measure => simp [intOf]; omega
    · obtain rfl : k = n := by omega
      go_wp2
      go_ret
      exact hgr.retl ic_len hbw

set_option maxRecDepth 100000 in
set_option maxHeartbeats 1600000 in
theorem ablesOfC_any (s : Row Crane) (cs : List CV) (hv : s.xs.map Crane.val = cs) (l : Lift) (w : World) (lo : Nat) (h : Cranes w lo w.heap.size s.a s.n s.xs) (hc : s.n ≤ s.cap) (hc2 : s.n ≤ 1048576) (hc3 : s.cap ≤ 9223372036854775807) (hp : ∀ p ∈ s.xs, p.wf) (hq : l.v.name.size ≤ 9223372036854775807) :
    Calls Try.prog 9 #[.agg #[.slice s.a s.n s.cap], .agg #[.string l.v.name, .int .i64 l.v.weight, .int .i64 l.v.fx, .int .i64 l.v.fy, .int .i64 l.v.tx, .int .i64 l.v.ty, .int .i64 l.v.height, .int .i64 l.v.deadline, .slice l.r.a l.r.n l.r.cap]] w (RetS ic 1 2 (abXs cs l.v) (abCode cs l.v) w) := by
  have HV := Lib.hid hv
  have HP := Lib.hid hp
  have HL : Hid (cs.length = s.n) := by show _ = _; rw [cv_len hv, h.len]
  obtain ⟨A, n, c, ps⟩ := s
  dsimp only at *
  obtain ⟨W, hW⟩ : ∃ W : World, W = (w.alloc (.cells #[.slice A n c] 26)).alloc (.cells #[.string l.v.name, .int .i64 l.v.weight, .int .i64 l.v.fx, .int .i64 l.v.fy, .int .i64 l.v.tx, .int .i64 l.v.ty, .int .i64 l.v.height, .int .i64 l.v.deadline, .slice l.r.a l.r.n l.r.cap] 40) := ⟨_, rfl⟩
  have B0 : Below w.heap.size w W := by rw [hW]; exact ((Below.refl _ _).alloc (Nat.le_refl _) _).alloc (by simp) _
  have P0 : Blk W w.heap.size 26 #[.slice A n c] := by rw [hW]; exact (Blk.new _ _ _).alloc _
  have Q0 : Blk W (w.heap.size + 1) 40 #[.string l.v.name, .int .i64 l.v.weight, .int .i64 l.v.fx, .int .i64 l.v.fy, .int .i64 l.v.tx, .int .i64 l.v.ty, .int .i64 l.v.height, .int .i64 l.v.deadline, .slice l.r.a l.r.n l.r.cap] := by rw [hW]; exact Blk.new_at rfl (by simp)
  have HC := Lib.hid (h.next B0)
  clear h
  clear hv hp
  cases h1 : siteOk cs
  · have H1 := Lib.hid h1
    have H : Hid (abXs cs l.v = [] ∧ abCode cs l.v = 1) := by show _ ∧ _; unfold abXs abCode; rw [h1]; exact ⟨rfl, rfl⟩
    clear h1
    go_enter Try.func9, Try.ntmps9
    go_wp2_with fail
    rw [← hW]
    clear hW
    have c9 : W.cell? ⟨w.heap.size, 0, none⟩ = some (.slice A n c) := P0.cell 0
    go_wp2_with fail
    refine (validSiteC_any ⟨A, n, c, ps⟩ cs HV.out _ lo HC.out hc hc2 hc3 HP.out).mono ?_
    rintro e w1 ⟨rfl, hb1⟩
    rw [H1.out]
    have B1 := B0.trans (hb1.mono B0.size)
    have P1 := P0.bel hb1
    have Q1 := Q0.bel hb1
    have HC1 := Lib.hid (HC.out.next hb1)
    clear c9 P0 Q0 hb1
    go_wp2
    go_ret2
    rw [H.out.1, H.out.2]; exact RetS.nil B1
  · have H1 := Lib.hid h1
    cases h2 : plainB l.v
    · have H2 := Lib.hid h2
      have H : Hid (abXs cs l.v = [] ∧ abCode cs l.v = 1) := by show _ ∧ _; unfold abXs abCode; rw [h1, h2]; exact ⟨rfl, rfl⟩
      clear h1 h2
      go_enter Try.func9, Try.ntmps9
      go_wp2_with fail
      rw [← hW]
      clear hW
      have c9 : W.cell? ⟨w.heap.size, 0, none⟩ = some (.slice A n c) := P0.cell 0
      go_wp2_with fail
      refine (validSiteC_any ⟨A, n, c, ps⟩ cs HV.out _ lo HC.out hc hc2 hc3 HP.out).mono ?_
      rintro e w1 ⟨rfl, hb1⟩
      rw [H1.out]
      have B1 := B0.trans (hb1.mono B0.size)
      have P1 := P0.bel hb1
      have Q1 := Q0.bel hb1
      have HC1 := Lib.hid (HC.out.next hb1)
      clear c9 P0 Q0 hb1
      obtain ⟨d0, d1, d2, d3, d4, d5, d6, d7, d8⟩ := Lift.blk Q1
      go_wp2_with fail
      refine (plain_any l _ hq).mono ?_
      rintro e w2 ⟨rfl, hb2⟩
      rw [H2.out]
      have B2 := B1.trans (hb2.mono B1.size)
      have P2 := P1.bel hb2
      have Q2 := Q1.bel hb2
      have HC2 := Lib.hid (HC1.out.next hb2)
      clear d0 d1 d2 d3 d4 d5 d6 d7 d8 P1 Q1 hb2
      go_wp2
      go_ret2
      rw [H.out.1, H.out.2]; exact RetS.nil B2
    · have H2 := Lib.hid h2
      have H : Hid (abXs cs l.v = ableTo cs l.v n ∧ abCode cs l.v = 0) := by show _ ∧ _; unfold abXs abCode; rw [h1, h2, HL.out]; exact ⟨rfl, rfl⟩
      clear h1 h2
      go_enter Try.func9, Try.ntmps9
      go_wp2_with fail
      rw [← hW]
      clear hW
      have c9 : W.cell? ⟨w.heap.size, 0, none⟩ = some (.slice A n c) := P0.cell 0
      go_wp2_with fail
      refine (validSiteC_any ⟨A, n, c, ps⟩ cs HV.out _ lo HC.out hc hc2 hc3 HP.out).mono ?_
      rintro e w1 ⟨rfl, hb1⟩
      rw [H1.out]
      have B1 := B0.trans (hb1.mono B0.size)
      have P1 := P0.bel hb1
      have Q1 := Q0.bel hb1
      have HC1 := Lib.hid (HC.out.next hb1)
      clear c9 P0 Q0 hb1
      obtain ⟨d0, d1, d2, d3, d4, d5, d6, d7, d8⟩ := Lift.blk Q1
      go_wp2_with fail
      refine (plain_any l _ hq).mono ?_
      rintro e w2 ⟨rfl, hb2⟩
      rw [H2.out]
      have B2 := B1.trans (hb2.mono B1.size)
      have P2 := P1.bel hb2
      have Q2 := Q1.bel hb2
      have HC2 := Lib.hid (HC1.out.next hb2)
      clear d0 d1 d2 d3 d4 d5 d6 d7 d8 P1 Q1 hb2
      have c9 : w2.cell? ⟨w.heap.size, 0, none⟩ = some (.slice A n c) := P2.cell 0
      go_wp2_with fail
      refine (ablesThat_any ⟨A, n, c, ps⟩ cs HV.out l (w.heap.size + 1) _ lo HC2.out (show n ≤ 1048576 by omega) HP.out hq H1.out H2.out (LiftAt.blk Q2) Q2.lt).mono ?_
      rintro _ w3 ⟨A3, cp, rfl, ho, hb3⟩
      go_wp2
      go_ret2
      rw [H.out.1, H.out.2]; exact RetL.rets ho B2 hb3
theorem ablesOf_any (s : Row Crane) (cs : List CV) (hv : s.xs.map Crane.val = cs) (l : Lift) (w : World) (lo : Nat) (h : Cranes w lo w.heap.size s.a s.n s.xs) (hc : s.n ≤ s.cap) (hc2 : s.cap ≤ 1048576) (hp : ∀ p ∈ s.xs, p.wf) (hq : l.v.name.size ≤ 9223372036854775807) :
    Calls Try.prog 9 #[.agg #[.slice s.a s.n s.cap], .agg #[.string l.v.name, .int .i64 l.v.weight, .int .i64 l.v.fx, .int .i64 l.v.fy, .int .i64 l.v.tx, .int .i64 l.v.ty, .int .i64 l.v.height, .int .i64 l.v.deadline, .slice l.r.a l.r.n l.r.cap]] w (RetS ic 1 2 (abXs cs l.v) (abCode cs l.v) w) := ablesOfC_any s cs hv l w lo h hc (by omega) (by omega) hp hq

end Go.Proofs.Ytnidnmbicnhflaa
/- XSpecBest: BestCrane of the reference: it hands back bcVal and bcCode. -/
namespace Go.Proofs.Ytnidnmbicnhflaa
open Go.RowKit Go.Sort
set_option linter.unusedVariables false

def ldC (cs : List CV) (v : LiftV) (i : Int) : Int := match cs[i.toNat]? with | some c => ldF c v | none => -1
theorem ldC_of {cs : List CV} {v : LiftV} {j : Nat} {c : CV} (h : cs[j]? = some c) : ldC cs v (j : Int) = ldF c v := by simp only [ldC, Int.toNat_natCast, h]
def bst (f : Int → Int) (xs : List Int) : Int × Int := xs.foldl (fun a i => if a.2 < f i then (i, f i) else a) (-1, -1)
theorem bst_snoc (f : Int → Int) (xs : List Int) (i : Int) : bst f (xs ++ [i]) = if (bst f xs).2 < f i then (i, f i) else bst f xs := by
  unfold bst; rw [List.foldl_append]; rfl
theorem bst_take {f : Int → Int} {xs : List Int} {k : Nat} {i : Int} (h : xs[k]? = some i) : bst f (xs.take (k + 1)) = if (bst f (xs.take k)).2 < f i then (i, f i) else bst f (xs.take k) := by
  rw [List.take_add_one, h, Option.toList_some, bst_snoc]
theorem bst_mem {f : Int → Int} {xs : List Int} (hf : ∀ i ∈ xs, 0 ≤ f i) {m : Nat} (hm : xs.length = m) : ∀ k, 1 ≤ k → k ≤ m → (bst f (xs.take k)).1 ∈ xs ∧ f (bst f (xs.take k)).1 = (bst f (xs.take k)).2 ∧ 0 ≤ (bst f (xs.take k)).2
  | 0, h, _ => absurd h (by omega)
  | k + 1, _, hk => by
    have hx : xs[k]? = some (xs[k]'(by omega)) := List.getElem?_eq_getElem _
    have hmem : xs[k]'(by omega) ∈ xs := List.getElem_mem _
    have h0 := hf _ hmem
    rw [bst_take hx]
    by_cases hlt : (bst f (xs.take k)).2 < f (xs[k]'(by omega))
    · rw [if_pos hlt]; exact ⟨hmem, rfl, h0⟩
    · rw [if_neg hlt]
      rcases Nat.eq_zero_or_pos k with rfl | hk1
      · exact absurd (show (bst f (xs.take 0)).2 < _ by show (-1 : Int) < _; omega) hlt
      · exact bst_mem hf hm k hk1 (by omega)
theorem able_mem {cs : List CV} {v : LiftV} {n : Nat} {x : Int} (h : x ∈ ableTo cs v n) : ∃ j : Nat, j < n ∧ x = (j : Int) ∧ ableAt cs v j = true := by
  unfold ableTo at h
  obtain ⟨j, hj, rfl⟩ := List.mem_map.1 h
  rw [List.mem_filter] at hj
  exact ⟨j, List.mem_range.1 hj.1, rfl, hj.2⟩
theorem able_get {cs : List CV} {v : LiftV} {n k : Nat} {x : Int} (h : (ableTo cs v n)[k]? = some x) : ∃ j : Nat, j < n ∧ x = (j : Int) ∧ ableAt cs v j = true := able_mem (List.mem_of_getElem? h)
theorem able_in {cs : List CV} {v : LiftV} {n k : Nat} {xs : List Int} (hxs : ableTo cs v n = xs) {x : Int} (h : xs[k]? = some x) : ∃ j : Nat, j < n ∧ x = (j : Int) := by
  subst hxs
  obtain ⟨j, h1, h2, _⟩ := able_get h
  exact ⟨j, h1, h2⟩
theorem able_ld {cs : List CV} {v : LiftV} {n : Nat} (hv : PlainV v) {x : Int} (h : x ∈ ableTo cs v n) : 0 ≤ ldC cs v x := by
  obtain ⟨j, _, rfl, ha⟩ := able_mem h
  unfold ableAt at ha
  split at ha
  · next c hc =>
    rw [ldC_of hc]
    rcases Int.lt_or_le (ldF c v) 0 with h9 | h9
    · rw [hv.ne h9] at ha; cases ha
    · exact h9
  · cases ha
def GoodC (w : World) (b off lo : Nat) (v : LiftV) (j : Nat) (x : Int) : Prop := ∃ p : Crane, CraneAt w b (off + j * 7) p ∧ Arr ChartStep.cs 2 w lo w.heap.size p.r.a p.r.n p.r.xs ∧ p.wf ∧ craneOk p.val = true ∧ ldF p.val v = x
def bcVal (cs : List CV) (v : LiftV) : Int := if siteOk cs then (if plainB v then (if ableTo cs v cs.length = [] then 0 else (bst (ldC cs v) (ableTo cs v cs.length)).1) else 0) else 0
def bcCode (cs : List CV) (v : LiftV) : Int := if siteOk cs then (if plainB v then (if ableTo cs v cs.length = [] then 3 else 0) else 1) else 1

end Go.Proofs.Ytnidnmbicnhflaa
