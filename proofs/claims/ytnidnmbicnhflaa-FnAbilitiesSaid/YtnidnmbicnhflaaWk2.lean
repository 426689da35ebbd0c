/- Lifts that the cranes of a drawn site can often do: l09Lifts of the reference: valid lifts. -/
import Derived.Test.YtnidnmbicnhflaaWk1
namespace Go.Proofs.Ytnidnmbicnhflaa
open Go.RowKit
set_option linter.unusedVariables false

/-- a site's box and its cranes, in whatever world the source alone has turned -/
def SiteIn (w : World) (g bx lo : Nat) (A : Option Addr) (nc cc : Nat) (ps : List Crane) : Prop := ∀ w', Within g (g + 1) w w' → w'.cell? ⟨bx, 0, none⟩ = some (.slice A nc cc) ∧ Cranes w' lo w'.heap.size A nc ps
theorem SiteIn.on {w w2 : World} {g bx lo : Nat} {A : Option Addr} {nc cc : Nat} {ps : List Crane} (h : SiteIn w g bx lo A nc cc ps) (hw : Within g (g + 1) w w2) : SiteIn w2 g bx lo A nc cc ps := fun w' h' => h w' (hw.trans h')
theorem SiteIn.crane {w : World} {g bx lo gb go : Nat} {nc cc : Nat} {ps : List Crane} (h : SiteIn w g bx lo (some ⟨gb, go, none⟩) nc cc ps) {k : Nat} (hk : k < nc) : ∃ p, ps[k]? = some p ∧ gb < w.heap.size ∧ CraneIn w g gb (go + k * 7) lo p := by
  obtain ⟨b, off, p, eA, hx, _, hbl, _, _⟩ := Crane.at (h w (Within.refl _ _ _)).2 hk
  obtain ⟨rfl, rfl⟩ : gb = b ∧ go = off := by injection eA with eA; injection eA with e1 e2; exact ⟨e1, e2⟩
  refine ⟨p, hx, hbl, fun w' hw => ?_⟩
  obtain ⟨b2, off2, p2, eA2, hx2, _, hbl2, hrow, hc⟩ := Crane.at (h w' hw).2 hk
  obtain ⟨rfl, rfl⟩ : gb = b2 ∧ go = off2 := by injection eA2 with eA; injection eA with e1 e2; exact ⟨e1, e2⟩
  obtain rfl : p2 = p := Option.some.inj (hx2.symm.trans hx)
  exact ⟨hc, hrow⟩
theorem FitV.wf {name : ByteArray} {v : LiftV} {r : Row Int} (h : FitV name v) (hn : name.size ≤ 1) (hr : r.n ≤ 6) : (⟨v, r⟩ : Lift).wf := by
  obtain ⟨h1, h2, h3, h4⟩ := h
  have a := h2.1; have b := h2.2; have c := h3.1; have d := h3.2
  refine ⟨⟨by rw [h1]; omega, by dsimp only; omega, by dsimp only; omega, by dsimp only; omega, by dsimp only; omega, by dsimp only; omega, by dsimp only; omega, by dsimp only; omega⟩, by dsimp only; omega, trivial⟩
theorem FitV.good {name : ByteArray} {v : LiftV} {i : Nat} {ys : List Int} (h : FitV name v) (hn : ns[i]? = some name) (hr : risesB ys (i : Int) = true) : GoodV i (v, ys) := by
  obtain ⟨h1, h2, h3, h4⟩ := h
  have hok : nmOk v.name = true := by rw [h1]; exact ns_ok _ (List.mem_of_getElem? hn)
  refine ⟨?_, hr, by show _ = some v.name; rw [h1]; exact hn⟩
  show plainB v = true
  unfold plainB plcB
  rw [hok, inB_true.2 (show 1 ≤ v.weight ∧ v.weight ≤ 50000 by omega), inB_true.2 h2.1, inB_true.2 h2.2, inB_true.2 h3.1, inB_true.2 h3.2, inB_true.2 (show 0 ≤ v.height ∧ v.height ≤ 2000 by omega), inB_true.2 (show 1 ≤ v.deadline ∧ v.deadline ≤ 1000000 by omega)]
  rfl
/-- a pick of a crane: what it leaves -/
def PkW (wr : World) (g B : Nat) (A : Option Addr) (n : Nat) (xs : List Int) (m nc : Nat) (bx : Prop) (e : Ending) (w4 : World) : Prop :=
  ∃ kn : Nat, e = .returned (.int .i64 (kn : Int)) ∧ (kn : Int) < (nc : Int) ∧ Src w4 g B A n xs m ∧ Within g (g + 1) wr w4 ∧ (bx → Blk w4 wr.heap.size 40 #[.string ⟨#[]⟩, .int .i64 0, .int .i64 0, .int .i64 0, .int .i64 0, .int .i64 0, .int .i64 0, .int .i64 0, .slice none 0 0])
theorem pkW_any (wr : World) (g B : Nat) (A : Option Addr) (n : Nat) (xs : List Int) (M nc : Nat) (hm : M ≤ 601000) (hn : n ≤ 1000000) (h1 : 1 ≤ nc) (h6 : nc ≤ 6) (hg : g < wr.heap.size) (X : World) (bx : Prop) (hX : RowKit.Below wr.heap.size wr X) (hS : Src wr g B A n xs M) (hz : bx → Blk X wr.heap.size 40 #[.string ⟨#[]⟩, .int .i64 0, .int .i64 0, .int .i64 0, .int .i64 0, .int .i64 0, .int .i64 0, .int .i64 0, .slice none 0 0]) :
    Calls Try.prog 49 #[.pointer (some ⟨g, 0, none⟩), .int .i64 (nc : Int)] X (PkW wr g B A n xs (M + 2) nc bx) :=
  (pick1_any g B A n xs M (by omega) hn (nc : Int) (by omega) (by omega) X (hS.bel hX)).mono fun e w4 ⟨r, he, h0, hr, hs, hw⟩ => by
    obtain ⟨kn, rfl⟩ := Int.eq_ofNat_of_zero_le h0
    exact ⟨kn, he, by omega, hs, Within.trans (.of_below _ _ hX) hw, fun h => (hz h).after hw (by omega)⟩
def FtW (wr Y : World) (g B : Nat) (A : Option Addr) (n : Nat) (xs : List Int) (m : Nat) (s : ByteArray) (e : Ending) (w5 : World) : Prop :=
  ∃ (v : LiftV) (aa : Option Addr) (ac : Nat), e = .returned (.agg #[.string v.name, .int .i64 v.weight, .int .i64 v.fx, .int .i64 v.fy, .int .i64 v.tx, .int .i64 v.ty, .int .i64 v.height, .int .i64 v.deadline, .slice aa 0 ac]) ∧ FitV s v ∧ Grow ic 1 w5 Y.heap.size 2 (.slice aa 0 ac) [] ∧ Src w5 g B A n xs m ∧ Within g (g + 1) wr w5 ∧ Within g (g + 1) Y w5
theorem ftW_any (wr w4 Y : World) (g B : Nat) (A : Option Addr) (n : Nat) (xs : List Int) (M bx lo gb go nc cc : Nat) (ps : List Crane) (s : ByteArray) (kn : Nat) (hm : M ≤ 700000) (hn : n ≤ 1000000) (hs : s.size ≤ 1) (hsi : SiteIn wr g bx lo (some ⟨gb, go, none⟩) nc cc ps) (hcg : ∀ p ∈ ps, CrGood p) (hk : kn < nc) (hw : Within g (g + 1) wr w4) (hS : Src w4 g B A n xs M) (hY : RowKit.Below w4.heap.size w4 Y) :
    Calls Try.prog 54 #[.pointer (some ⟨g, 0, none⟩), .pointer (some ⟨gb, go + kn * 7, none⟩), .string s] Y (FtW wr Y g B A n xs (M + 50) s) := by
  have hwY : Within g (g + 1) wr Y := hw.trans (.of_below g (g + 1) hY)
  obtain ⟨p, hpx, hbl, hci⟩ := (hsi.on hwY).crane hk
  have hc := hcg p (List.mem_of_getElem? hpx)
  exact (l09Fit_any g B A n xs M hm hn gb (go + kn * 7) lo p s hs Y (hS.bel hY) hbl hci hc.ok hc.wf hc.pos).mono fun e w5 ⟨v, aa, ac, he, hf, hg, hs5, hw5⟩ => ⟨v, aa, ac, he, hf, hg, hs5, hwY.trans hw5, hw5⟩
set_option maxRecDepth 100000 in
set_option maxHeartbeats 3200000 in
theorem l09Lifts_any (g B : Nat) (A : Option Addr) (n : Nat) (xs : List Int) (m : Nat) (hm : m ≤ 600000) (hn : n ≤ 1000000) (bx lo gb go nc cc : Nat) (ps : List Crane) (w : World) (h : Src w g B A n xs m) (hbx : bx < w.heap.size) (hsi : SiteIn w g bx lo (some ⟨gb, go, none⟩) nc cc ps) (hnc : 1 ≤ nc ∧ nc ≤ 6) (hgood : ∀ p ∈ ps, CrGood p) :
    Calls Try.prog 25 #[.pointer (some ⟨g, 0, none⟩), .pointer (some ⟨bx, 0, none⟩), .int .i64 6] w fun e w' => DrawnAll w w.heap.size e w' ∧ Within g (g + 1) w w' := by
  have hg := h.lt
  have HSI := Lib.hid hsi
  have HCG := Lib.hid hgood
  clear hsi hgood
  obtain ⟨W, hW⟩ : ∃ W : World, W = w.alloc (.cells #[] 40) := ⟨_, rfl⟩
  have hb : RowKit.Below w.heap.size w W := by rw [hW]; exact (Below.refl _ _).alloc (Nat.le_refl _) _
  have hG : Grow Lift.cs 9 W w.heap.size 40 (.slice (some ⟨w.heap.size, 0, none⟩) 0 0) [] := by rw [hW]; exact Grow.empty _ _ _ (Nat.le_refl _)
  have hwb : Within g (g + 1) w W := .of_below _ _ hb
  have hWs : W.heap.size = w.heap.size + 1 := by rw [hW]; simp
  go_enter Try.func25, Try.ntmps25
  go_wp2_with fail
  rw [← hW]
  clear hW
  refine (l08Names_any W).mono ?_
  rintro e w1 ⟨rfl, hw1⟩
  have hb1 : RowKit.Below W.heap.size W w1 := by rw [hw1]; exact (Below.refl _ _).alloc (Nat.le_refl _) _
  have hN1 : Blk w1 W.heap.size 9 nmCells := by rw [hw1]; exact Blk.new _ _ _
  have hG1 := hG.bel hb1
  have hS1 := (h.bel hb).bel hb1
  have hwt1 := hwb.trans (.of_below _ _ hb1)
  have hz1 := hN1.lt
  obtain ⟨q, hq⟩ : ∃ q, W.heap.size = q := ⟨_, rfl⟩
  rw [hq] at hN1 hz1 ⊢
  clear hw1 hb1 hG hwb hb h
  have hgq : g ≠ q := by omega
  go_wp2_with fail
  refine (pick_any g B A n xs m (by omega) hn 7 (by omega) (by omega) w1 hS1).mono ?_
  rintro e w2 ⟨k0, rfl, hk0, hk1, hS2, hw2⟩
  obtain ⟨K, rfl⟩ := Int.eq_ofNat_of_zero_le hk0
  have hK : K ≤ 6 := by omega
  have HN2 := Lib.hid (hN1.after hw2 hgq)
  have HG2 := Lib.hid (hG1.far2 hw2 (by omega))
  have HS2 := Lib.hid hS2
  have HT2 := Lib.hid (hwt1.trans hw2)
  clear hS2 hN1 hG1 hS1 hwt1 hw2 hk0 hk1
  go_wp2
  go_loopw [7, 9] (fun v kv wr => ∃ (k : Nat) (out : List Lift), out.length + k = K ∧ kv = .int .i64 k ∧ Grow Lift.cs 9 wr w.heap.size 40 v out ∧ Good (out.map Lift.val) ∧ (∀ p ∈ out, DrawnIn wr w.heap.size p) ∧ Blk wr q 9 nmCells ∧ Src wr g B A n xs (m + 2 + 70 * out.length) ∧ Within g (g + 1) w wr) (fun _ kv _ => (intOf kv).toNat)
  case atStart => exact ⟨K, [], by simp, rfl, HG2.out, good_nil, fun p hp => (by cases hp), HN2.out, HS2.out.more (by omega), HT2.out⟩
  case round =>
    obtain ⟨k, out, hk, rfl, hgr, hgood, hown, hNb, hsr, hwr⟩ := hrel
    have hol : out.length ≤ 6 := by omega
    have sx : wr.cell? ⟨bx, 0, none⟩ = some (.slice (some ⟨gb, go, none⟩) nc cc) := (HSI.out wr hwr).1
    have hbxr : bx < wr.heap.size := by have := hwr.size; omega
    by_cases hlt : 0 < k
    · obtain ⟨A', cap, rfl, hc1, hc2⟩ := hgr.slice
      obtain ⟨s, hs, hcell⟩ := nm_at hNb out.length (by omega)
      have hss := ns_size s (List.mem_of_getElem? hs)
      have HS := Lib.hid hs
      have HG := Lib.hid hgr
      have HGD := Lib.hid hgood
      have HO := Lib.hid hown
      have HN := Lib.hid hNb
      have HW := Lib.hid hwr
      have HSR := Lib.hid hsr
      have HSX := Lib.hid (HSI.out.on hwr)
      have hk1 : (0 : Int) < (k : Int) := by omega
      have hl0 : (0 : Int) ≤ (out.length : Int) := by omega
      have hl1 : (out.length : Int) < 11 := by omega
      have hnc0 : (0 : Int) < (nc : Int) := by omega
      have hgw : g < wr.heap.size := by have := hwr.size; omega
      obtain ⟨M, hM⟩ : ∃ M, m + 2 + 70 * out.length = M := ⟨_, rfl⟩
      have hMb : M ≤ 601000 := by omega
      rw [hM] at HSR
      have HM := Lib.hid hM
      clear hs hgr hgood hown hNb hwr hsr HN2 HG2 HS2 HT2 hM
      have hqr : q < wr.heap.size := HN.out.lt
      have HPKD : Hid (Calls Try.prog 49 #[.pointer (some ⟨g, 0, none⟩), .int .i64 (nc : Int)] wr.drew (PkW wr g B A n xs (M + 2) nc False)) := pkW_any wr g B A n xs M nc hMb hn hnc.1 hnc.2 hgw wr.drew False ((Below.refl _ _).drew) HSR.out (fun h => h.elim)
      have HPKA : Hid (Calls Try.prog 49 #[.pointer (some ⟨g, 0, none⟩), .int .i64 (nc : Int)] (wr.drew.alloc (.cells #[.string ⟨#[]⟩, .int .i64 0, .int .i64 0, .int .i64 0, .int .i64 0, .int .i64 0, .int .i64 0, .int .i64 0, .slice none 0 0] 40)) (PkW wr g B A n xs (M + 2) nc True)) := pkW_any wr g B A n xs M nc hMb hn hnc.1 hnc.2 hgw _ True (((Below.refl _ _).drew).alloc (Nat.le_refl _) _) HSR.out (fun _ => Blk.new wr.drew _ _)
      have HFT : Hid (∀ (kn : Nat) (w4 Y : World), (kn : Int) < (nc : Int) → Within g (g + 1) wr w4 → Src w4 g B A n xs (M + 2) → RowKit.Below w4.heap.size w4 Y → Calls Try.prog 54 #[.pointer (some ⟨g, 0, none⟩), .pointer (some ⟨gb, go + kn * 7, none⟩), .string s] Y (FtW wr Y g B A n xs (M + 2 + 50) s)) := fun kn w4 Y h1 h2 h3 h4 => ftW_any wr w4 Y g B A n xs (M + 2) bx lo gb go nc cc ps s kn (by omega) hn hss HSX.out HCG.out (by omega) h2 h3 h4
      go_upto_region 6 with fail
      go_cut [10] (fun s10 wx => ∃ (v : LiftV) (aa : Option Addr) (ac lb : Nat), s10 = .pointer (some ⟨lb, 0, none⟩) ∧ FitV s v ∧ Blk wx lb 40 #[.string v.name, .int .i64 v.weight, .int .i64 v.fx, .int .i64 v.fy, .int .i64 v.tx, .int .i64 v.ty, .int .i64 v.height, .int .i64 v.deadline, .slice aa 0 ac] ∧ Grow ic 1 wx wr.heap.size 2 (.slice aa 0 ac) [] ∧ Src wx g B A n xs (M + 2 + 50) ∧ Within g (g + 1) wr wx ∧ wr.heap.size ≤ lb)
      case first =>
        go_region_law ((first | ((try go_simp); go_at_call 49; (first | refine HPKD.out.mono ?_ | refine HPKA.out.mono ?_); rintro e w4 ⟨kn, rfl, hkc, hs4, hwx, hz4⟩; have hwz := hwx.size; have hq4 : q < w4.heap.size := (by omega); have hb4 : bx < w4.heap.size := (by omega); have hk0 : (0 : Int) ≤ (kn : Int) := (by omega); have sx4 : w4.cell? ⟨bx, 0, none⟩ = some (.slice (some ⟨gb, go, none⟩) nc cc) := (HSX.out w4 hwx).1; have hc4 : w4.cell? ⟨q, out.length, none⟩ = some (.string s) := (hwx.cell (p := ⟨q, out.length, none⟩) (HN.out.lt) (by show q < g ∨ g + 1 ≤ q; omega)).trans hcell; have HWX := Lib.hid hwx; have HS4 := Lib.hid hs4; have HZ4 := Lib.hid hz4; clear hwx hs4 hz4) | ((try go_simp); go_at_call 54; refine (HFT.out kn w4 _ hkc HWX.out HS4.out (by first | exact Below.refl _ _ | exact (Below.refl _ _).alloc (Nat.le_refl _) _)).mono ?_; rintro e w5 ⟨v, aa, ac, rfl, hfit, hgr5, hs5, hw5, hy5⟩; have hz5 := hw5.size; have hy9 := hy5.size; have HY5 := Lib.hid hy5; clear hy5; (first | (have HBX : Hid (Blk w5 w4.heap.size 40 #[.string ⟨#[]⟩, .int .i64 0, .int .i64 0, .int .i64 0, .int .i64 0, .int .i64 0, .int .i64 0, .int .i64 0, .slice none 0 0]) := Blk.after (Blk.new w4 _ _) HY5.out (by omega); obtain ⟨z0, z1, z2, z3, z4, z5, z6, z7, z8⟩ := Lift.blk HBX.out; obtain ⟨y0, y1, y2, y3, y4, y5, y6, y7, y8⟩ := Lift.fro HBX.out; have hbl5 := HBX.out.lt) | (have HBX : Hid (Blk w5 wr.heap.size 40 #[.string ⟨#[]⟩, .int .i64 0, .int .i64 0, .int .i64 0, .int .i64 0, .int .i64 0, .int .i64 0, .int .i64 0, .slice none 0 0]) := Blk.after (HZ4.out trivial) HY5.out (by omega); have hly := (HZ4.out trivial).lt; obtain ⟨z0, z1, z2, z3, z4, z5, z6, z7, z8⟩ := Lift.blk HBX.out; obtain ⟨y0, y1, y2, y3, y4, y5, y6, y7, y8⟩ := Lift.fro HBX.out; have hbl5 := HBX.out.lt) | skip); have HFIT := Lib.hid hfit; have HGR5 := Lib.hid hgr5; have HS5 := Lib.hid hs5; have HW5 := Lib.hid hw5)))
        all_goals first
          | (have hbx9 := HBX.out
             clear hbx9
             go_wp2_with fail
             rw [putL_eq]
             go_meet
             exact ⟨v, aa, ac, _, rfl, HFIT.out, putL_blk HBX.out _ _ _ _ _ _ _ _ _, (HGR5.out.far2 (putL_self _ _ _ _ _ _ _ _ _ _ _) (by first | omega | (simp; omega) | simp)).less (by first | omega | (simp; omega)), HS5.out.far (putL_self _ _ _ _ _ _ _ _ _ _ _) (by omega), putL_within HW5.out (by omega) _ _ _ _ _ _ _ _ _, by omega⟩)
          | (obtain ⟨W6, hW6⟩ : ∃ V : World, V = w5.alloc (.cells #[.string v.name, .int .i64 v.weight, .int .i64 v.fx, .int .i64 v.fy, .int .i64 v.tx, .int .i64 v.ty, .int .i64 v.height, .int .i64 v.deadline, .slice aa 0 ac] 40) := ⟨_, rfl⟩
             have hb6 : RowKit.Below w5.heap.size w5 W6 := by rw [hW6]; exact (Below.refl _ _).alloc (Nat.le_refl _) _
             have HP6 : Hid (Blk W6 w5.heap.size 40 #[.string v.name, .int .i64 v.weight, .int .i64 v.fx, .int .i64 v.fy, .int .i64 v.tx, .int .i64 v.ty, .int .i64 v.height, .int .i64 v.deadline, .slice aa 0 ac]) := by show _; rw [hW6]; exact Blk.new _ _ _
             have HGG := Lib.hid ((HGR5.out.less (by omega)).bel hb6)
             have HSS := Lib.hid (HS5.out.bel hb6)
             have HTT := Lib.hid (HW5.out.trans (.of_below g (g + 1) hb6))
             go_wp2_with fail
             rw [← hW6]
             clear hW6 hb6
             go_meet
             exact ⟨v, aa, ac, w5.heap.size, rfl, HFIT.out, HP6.out, HGG.out, HSS.out, HTT.out, HW5.out.size⟩)
      case rest =>
      obtain ⟨v, aa, ac, lb, rfl, hfit, hP6, hG6, hS6, hT6, hlb⟩ := hcut
      rename World => w6
      have HFIT := Lib.hid hfit
      have HP6 := Lib.hid hP6
      have HG6 := Lib.hid hG6
      have HS6 := Lib.hid hS6
      have HT6 := Lib.hid hT6
      have hz6 := hT6.size
      have hglb : g ≠ lb := by omega
      clear hfit hP6 hG6 hS6 hT6 HPKD HPKA HFT hcell sx
      go_wp2
      go_loopw [11] (fun jv wi => ∃ (j : Nat) (v8 : Value) (o2 : List Int), j ≤ out.length ∧ jv = .int .i64 j ∧ Blk wi lb 40 #[.string v.name, .int .i64 v.weight, .int .i64 v.fx, .int .i64 v.fy, .int .i64 v.tx, .int .i64 v.ty, .int .i64 v.height, .int .i64 v.deadline, v8] ∧ Grow ic 1 wi wr.heap.size 2 v8 o2 ∧ risesB o2 (j : Int) = true ∧ o2.length ≤ j ∧ Src wi g B A n xs (M + 52 + 2 * j) ∧ Within g (g + 1) wr wi) (fun jv _ => out.length - (intOf jv).toNat)
      case atStart => exact ⟨0, _, [], Nat.zero_le _, rfl, HP6.out, HG6.out, rfl, Nat.le_refl _, HS6.out.more (by omega), HT6.out⟩
      case round =>
        obtain ⟨j, v8, o2, hj, rfl, hPb, hgr, hri, hol2, hsr, hwi⟩ := hrel
        rename World => wi
        have HGR := Lib.hid hgr
        have HRI := Lib.hid hri
        have HPB := Lib.hid hPb
        have HWI := Lib.hid hwi
        have hzi := hwi.size
        clear HP6 HG6 HS6 HT6
        by_cases hlt2 : j < out.length
        · have hb9 := hPb.lt
          have c8 : wi.cell? ⟨lb, 8, none⟩ = some v8 := hPb.cell 8
          have hj1 : (j : Int) < (out.length : Int) := by omega
          have hj0 : (0 : Int) ≤ (j : Int) := by omega
          clear hgr hri hPb hwi
          go_wp2_with fail
          refine (one_any g B A n xs (M + 52 + 2 * j) (by omega) hn 5 (by omega) (by omega) wi hsr).mono ?_
          rintro e w7 ⟨r, rfl, hs7, hw7⟩
          have hz7 := hw7.size
          have HG7 := Lib.hid (HGR.out.far2 hw7 (by omega))
          have hP7 := HPB.out.after hw7 hglb
          have c87 : w7.cell? ⟨lb, 8, none⟩ = some v8 := hP7.cell 8
          have f87 := hP7.frozen 8
          have HP7 := Lib.hid hP7
          have HS7 := Lib.hid hs7
          have HW7 := Lib.hid (HWI.out.trans hw7)
          clear hP7 hs7 hw7 c8
          cases r
          · go_wp2
            go_roundw
            case rel => exact ⟨j + 1, v8, o2, by omega, by go_num, HP7.out, HG7.out, rises_up HRI.out (by omega), by omega, HS7.out.more (by omega), HW7.out⟩
            case measure => simp [intOf]; omega
          · obtain ⟨W8, hW8⟩ : ∃ W8 : World, W8 = w7.alloc (.cells #[.int .i64 (j : Int)] 2) := ⟨_, rfl⟩
            have hb8 : RowKit.Below w7.heap.size w7 W8 := by rw [hW8]; exact (Below.refl _ _).alloc (Nat.le_refl _) _
            have HG8 := Lib.hid (HG7.out.bel hb8)
            have hz8 := hb8.size
            have HW8 := Lib.hid hW8
            have HP8 := Lib.hid (HP7.out.bel hb8)
            have HS8 := Lib.hid (HS7.out.bel hb8)
            have HT8 := Lib.hid (HW7.out.trans (.of_below g (g + 1) hb8))
            clear hb8 hW8
            go_wp2_with (at_builtin; rw [← HW8.out]; refine wpList_snoc _ rfl _ _ 33 rfl wr.heap.size 2 (.int .i64 0) 8 Try.underlying33 infoInt rfl (by omega) v8 o2 (j : Int) rfl HG8.out _ _ rfl (by rw [HW8.out]; exact heap_alloc_new _ _) rfl rfl (ic_one _) (by omega) (by omega) (by omega) ?_; intro v9 w9 hg9 hgr9; obtain ⟨A9, n9, c9, hv9⟩ := hg9.sl; subst hv9; have hP9 : Blk w9 lb 40 #[.string v.name, .int .i64 v.weight, .int .i64 v.fx, .int .i64 v.fy, .int .i64 v.tx, .int .i64 v.ty, .int .i64 v.height, .int .i64 v.deadline, v8] := HP8.out.kept (by decide) HG8.out hgr9; have c89 : w9.cell? ⟨lb, 8, none⟩ = some v8 := hP9.cell 8; have f89 := hP9.frozen 8)
            have hz9 := hgr9.size
            have HP9 : Hid (Blk (w9.setCell ⟨lb, 8, none⟩ (.slice A9 n9 c9)) lb 40 #[.string v.name, .int .i64 v.weight, .int .i64 v.fx, .int .i64 v.fy, .int .i64 v.tx, .int .i64 v.ty, .int .i64 v.height, .int .i64 v.deadline, (.slice A9 n9 c9)]) := hP9.set_lit (i := 8) rfl
            have HG9 := Lib.hid (hg9.setBlk (i := 8) hP9 (by decide) (.slice A9 n9 c9))
            have HS9 := Lib.hid ((HS8.out.grown hgr9 (fun q9 e9 => by have := (HG8.out.lt q9 e9).1; omega)).set (p := ⟨lb, 8, none⟩) (by show g < lb; omega) (.slice A9 n9 c9))
            have HT9 := Lib.hid ((Grow.within HG8.out HT8.out hgr9 (Nat.le_refl _)).fresh (p := ⟨lb, 8, none⟩) hlb (.slice A9 n9 c9))
            clear hg9 hgr9 hP9 c89 f89 c87 f87
            go_wp2
            go_roundw
            case rel => exact ⟨j + 1, (.slice A9 n9 c9), _, by omega, by go_num, HP9.out, HG9.out, rises_snoc HRI.out hj0, by simp; omega, HS9.out.more (by omega), HT9.out⟩
            case measure => simp [intOf]; omega
        · obtain rfl : j = out.length := by omega
          obtain ⟨A3, cap3, rfl, hhd, hown3⟩ := Headed.ofGrow HGR.out
          obtain ⟨e0, e1, e2, e3, e4, e5, e6, e7, e8⟩ := Lift.blk hPb
          have HHD := Lib.hid hhd
          have HOWN := Lib.hid hown3
          have HSI2 := Lib.hid hsr
          have hz := HW.out.size
          obtain ⟨W4, hW4⟩ : ∃ W4 : World, W4 = wi.alloc (.cells #[.string v.name, .int .i64 v.weight, .int .i64 v.fx, .int .i64 v.fy, .int .i64 v.tx, .int .i64 v.ty, .int .i64 v.height, .int .i64 v.deadline, .slice A3 o2.length cap3] 40) := ⟨_, rfl⟩
          have hb4 : RowKit.Below wi.heap.size wi W4 := by rw [hW4]; exact (Below.refl _ _).alloc (Nat.le_refl _) _
          have hz4 : W4.heap.size = wi.heap.size + 1 := by rw [hW4]; simp
          have HW4 := Lib.hid hW4
          have HG4 := Lib.hid ((HG.out.far2 HWI.out (by omega)).bel hb4)
          have HN4 := Lib.hid ((HN.out.after HWI.out hgq).bel hb4)
          have HS4 := Lib.hid (HSI2.out.bel hb4)
          have HT4 := Lib.hid ((HW.out.trans HWI.out).trans (.of_below g (g + 1) hb4))
          have HO4 : Hid (∀ u ∈ out ++ [(⟨v, ⟨A3, o2.length, cap3, o2⟩⟩ : Lift)], DrawnIn W4 w.heap.size u) := fun u hu => by
            rcases List.mem_append.1 hu with hu | hu
            · obtain ⟨u1, u2, u3, u4⟩ := HO.out u hu
              exact ⟨((u1.within HWI.out (.inr (by omega))).wide (Nat.le_refl _) hzi |>.bel hb4).wide (Nat.le_refl _) (by omega), u2, u3, u4⟩
            · rw [List.mem_singleton] at hu; subst hu
              exact ⟨(HOWN.out.bel hb4).wide (by omega) (by omega), HHD.out, by show o2.length ≤ 6; omega, HFIT.out.wf hss (by show o2.length ≤ 6; omega)⟩
          clear hgr hri hPb hwi hhd hown3 hsr hb4 hW4
          go_wp2_with (at_builtin; rw [← HW4.out]; refine wpList_snoc _ rfl _ _ 27 rfl w.heap.size 40 _ _ Try.underlying27 LiftInfo rfl (by omega) _ out (⟨v, ⟨A3, o2.length, cap3, o2⟩⟩ : Lift) rfl HG4.out _ _ rfl (by rw [HW4.out]; exact heap_new_at _ _ (by simp)) rfl rfl (Lift.cs_one _) (by omega) (by omega) (by omega) ?_; intro v' w5 hg5 hgr5)
          have hz5 := hgr5.size
          have HN5 := Lib.hid (HN4.out.kept (by decide) HG4.out hgr5)
          have HS5 := Lib.hid (HS4.out.grown hgr5 (fun u e9 => by have := HG4.out.lt u e9; omega))
          have HT5 := Lib.hid (HG4.out.within HT4.out hgr5 (Nat.le_refl _))
          have HO5 : Hid (∀ u ∈ out ++ [(⟨v, ⟨A3, o2.length, cap3, o2⟩⟩ : Lift)], DrawnIn w5 w.heap.size u) := fun u hu => by
            obtain ⟨u1, u2, u3, u4⟩ := HO4.out u hu
            exact ⟨(Own.kept u1 (by decide) HG4.out hgr5).wide (Nat.le_refl _) hz5, u2, u3, u4⟩
          have HGD5 : Hid (Good ((out ++ [(⟨v, ⟨A3, o2.length, cap3, o2⟩⟩ : Lift)]).map Lift.val)) := by
            show Good _
            rw [List.map_append]
            exact good_snoc HGD.out (by rw [List.length_map]; exact HFIT.out.good HS.out HRI.out)
          have HG5 := Lib.hid hg5
          have HLE : Hid (M + 52 + 2 * out.length ≤ m + 2 + 70 * (out.length + 1)) := by show _ ≤ _; rw [← HM.out]; omega
          clear hg5 hgr5
          go_roundw
          case rel => exact ⟨k - 1, _, by simp; omega, by go_num, HG5.out, HGD5.out, HO5.out, HN5.out, HS5.out.more (by simp; have := HLE.out; omega), HT5.out⟩
          case measure => simp [intOf]; omega
    · obtain rfl : k = 0 := by omega
      go_wp2
      go_ret
      exact ⟨⟨_, out, rfl, hgr, hgood, hol, hown⟩, hwr⟩
end Go.Proofs.Ytnidnmbicnhflaa
