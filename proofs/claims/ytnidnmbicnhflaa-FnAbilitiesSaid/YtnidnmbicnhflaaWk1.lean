/- A lift that a crane of a drawn site can often do: l02At, l09Fit of the reference: a valid lift that needs nothing. -/
import Derived.Test.YtnidnmbicnhflaaHv7
import Derived.Test.YtnidnmbicnhflaaVec
import Derived.Deep.RegionLaw
import Derived.Deep.DeepCutAuto
namespace Go.Proofs.Ytnidnmbicnhflaa
open Go.RowKit
set_option linter.unusedVariables false
attribute [local irreducible] vecN
theorem tdiv_bd {v r : Int} (hv : -1000 ≤ v ∧ v ≤ 1000) (hr : 0 ≤ r ∧ r ≤ 1000) : (-1000000 ≤ v * r ∧ v * r ≤ 1000000) ∧ (-1000 ≤ (v * r).tdiv 1000 ∧ (v * r).tdiv 1000 ≤ 1000) := by
  have h1 : -1000000 ≤ v * r ∧ v * r ≤ 1000000 := by
    rcases Int.le_total 0 v with h | h
    · have a := Int.mul_le_mul hv.2 hr.2 hr.1 (by omega : (0 : Int) ≤ 1000)
      have b := Int.mul_nonneg h hr.1
      omega
    · have a := Int.mul_le_mul (show -v ≤ 1000 by omega) hr.2 hr.1 (by omega : (0 : Int) ≤ 1000)
      have b := Int.mul_nonneg (show 0 ≤ -v by omega) hr.1
      rw [Int.neg_mul] at a b
      omega
  refine ⟨h1, ?_⟩
  generalize v * r = P at h1
  rcases Int.le_total 0 P with h | h
  · rw [Int.tdiv_eq_ediv_of_nonneg h]; omega
  · have e : P.tdiv 1000 = -((-P).tdiv 1000) := by rw [Int.neg_tdiv, Int.neg_neg]
    rw [e, Int.tdiv_eq_ediv_of_nonneg (by omega)]; omega
theorem wrapJ {n : Int} (h : -9223372036854775808 ≤ n ∧ n ≤ 9223372036854775807) : IntKind.i64.wrap n = n := by rw [IntKind.wrap_i64]; omega
set_option maxRecDepth 100000 in
set_option maxHeartbeats 1000000 in
theorem l02At_eq (d : Nat) (r x y : Int) (hd : d < 24) (hr : 0 ≤ r ∧ r ≤ 1000) (hp : plcB x y = true) (w : World) :
    Calls Try.prog 81 #[.agg #[.int .i64 x, .int .i64 y], .int .i64 (d : Int), .int .i64 r] w fun e w' => e = .returned (.agg #[.int .i64 (x + ((vecN d).x * r).tdiv 1000), .int .i64 (y + ((vecN d).y * r).tdiv 1000)]) ∧ RowKit.Below w.heap.size w w' := by
  obtain ⟨v1, v2, v3, v4⟩ := vecN_small d
  obtain ⟨m1, t1⟩ := tdiv_bd (v := (vecN d).x) (r := r) ⟨v1, v2⟩ hr
  obtain ⟨m2, t2⟩ := tdiv_bd (v := (vecN d).y) (r := r) ⟨v3, v4⟩ hr
  have hpi := plcB_iff hp
  obtain ⟨W, hW⟩ : ∃ W : World, W = (w.alloc (.cells #[.int .i64 x, .int .i64 y] 38)).alloc (.cells #[.int .i64 0, .int .i64 0] 38) := ⟨_, rfl⟩
  have B0 : RowKit.Below w.heap.size w W := by rw [hW]; exact ((Below.refl _ _).alloc (Nat.le_refl _) _).alloc (by simp) _
  have P0 : Blk W w.heap.size 38 #[.int .i64 x, .int .i64 y] := by rw [hW]; exact (Blk.new _ _ _).alloc _
  have R0 : Blk W (w.heap.size + 1) 38 #[.int .i64 0, .int .i64 0] := by rw [hW]; exact Blk.new_at rfl (by simp)
  have HV := Lib.hid (l02Vector_any d hd W)
  have HP0 := Lib.hid P0
  have HR0 := Lib.hid R0
  have HB0 := Lib.hid B0
  have HAT : Hid ((vecN d).x = (vecN d).x ∧ (vecN d).y = (vecN d).y) := ⟨rfl, rfl⟩
  clear P0 R0 B0 hp
  obtain ⟨⟨vx, vy⟩, hv⟩ : ∃ v, vecN d = v := ⟨_, rfl⟩
  rw [hv] at v1 v2 v3 v4 m1 t1 m2 t2 HV ⊢
  dsimp only at v1 v2 v3 v4 m1 t1 m2 t2 HV ⊢
  clear hv HAT
  have k1 : IntKind.i64.wrap (vx * r) = vx * r := wrapJ (by omega)
  have k2 : IntKind.i64.wrap (vy * r) = vy * r := wrapJ (by omega)
  have k3 : IntKind.i64.wrap ((vx * r).tdiv 1000) = (vx * r).tdiv 1000 := wrapJ (by omega)
  have k4 : IntKind.i64.wrap ((vy * r).tdiv 1000) = (vy * r).tdiv 1000 := wrapJ (by omega)
  have k5 : IntKind.i64.wrap (x + (vx * r).tdiv 1000) = x + (vx * r).tdiv 1000 := wrapJ (by omega)
  have k6 : IntKind.i64.wrap (y + (vy * r).tdiv 1000) = y + (vy * r).tdiv 1000 := wrapJ (by omega)
  go_enter Try.func81, Try.ntmps81
  go_wp2_with fail
  rw [← hW]
  clear hW
  refine HV.out.mono ?_
  rintro e w1 ⟨rfl, hb1⟩
  have P1 := HP0.out.bel hb1
  have R1 := HR0.out.bel hb1
  have HB1 := Lib.hid (HB0.out.trans (hb1.mono HB0.out.size))
  have hpl : w.heap.size < w1.heap.size := P1.lt
  have hrl : w.heap.size + 1 < w1.heap.size := R1.lt
  have p0 : w1.cell? ⟨w.heap.size, 0, none⟩ = some (.int .i64 x) := (P1.cell 0).trans rfl
  have p1 : w1.cell? ⟨w.heap.size, 1, none⟩ = some (.int .i64 y) := (P1.cell 1).trans rfl
  have c0 : w1.cell? ⟨w.heap.size + 1, 0, none⟩ = some (.int .i64 0) := (R1.cell 0).trans rfl
  have c1 : w1.cell? ⟨w.heap.size + 1, 1, none⟩ = some (.int .i64 0) := (R1.cell 1).trans rfl
  have f0 := R1.frozen 0
  have f1 := R1.frozen 1
  have hszw := HB1.out.size
  clear hb1 P1 R1
  go_wp2
  exact bodyPost_ret (v := .agg #[.int .i64 (x + (vx * r).tdiv 1000), .int .i64 (y + (vy * r).tdiv 1000)]) (by simp [results, Try.results81, go_sem, c0, c1, hrl]) rfl ⟨rfl, ((HB1.out.setCell (p := ⟨w.heap.size + 1, 0, none⟩) (by show _ ≤ w.heap.size + 1; omega) _).setCell (p := ⟨w.heap.size + 1, 1, none⟩) (by show _ ≤ w.heap.size + 1; omega) _).alloc (by simp; omega) _⟩
theorem plcB_mk {x y : Int} (h : (-600 ≤ x ∧ x ≤ 600) ∧ (-600 ≤ y ∧ y ≤ 600)) : plcB x y = true := by
  unfold plcB
  rw [inB_true.2 (by omega), inB_true.2 (by omega)]; rfl
theorem l02At_near (d : Nat) (r x y : Int) (hd : d < 24) (hr : 0 ≤ r ∧ r ≤ 1000) (hp : (-600 ≤ x ∧ x ≤ 600) ∧ (-600 ≤ y ∧ y ≤ 600)) (w : World) :
    Calls Try.prog 81 #[.agg #[.int .i64 x, .int .i64 y], .int .i64 (d : Int), .int .i64 r] w fun e w' => ∃ X Y : Int, e = .returned (.agg #[.int .i64 X, .int .i64 Y]) ∧ Plc X Y ∧ RowKit.Below w.heap.size w w' := by
  obtain ⟨v1, v2, v3, v4⟩ := vecN_small d
  have a := (tdiv_bd (v := (vecN d).x) (r := r) ⟨v1, v2⟩ hr).2
  have b := (tdiv_bd (v := (vecN d).y) (r := r) ⟨v3, v4⟩ hr).2
  exact (l02At_eq d r x y hd hr (plcB_mk hp) w).mono fun e w' h => ⟨_, _, h.1, ⟨by omega, by omega⟩, h.2⟩
set_option maxHeartbeats 1600000 in
theorem pick1_any (g B : Nat) (A : Option Addr) (n : Nat) (xs : List Int) (m : Nat) (hm : m ≤ 900000) (hn : n ≤ 1000000) (k : Int) (hk1 : 0 < k) (hk2 : k ≤ 60000) (w : World) (h : Src w g B A n xs m) :
    Calls Try.prog 49 #[.pointer (some ⟨g, 0, none⟩), .int .i64 k] w (Asks g B A n xs (m + 2) 0 (k - 1) w) := by
  by_cases h1 : 1 < k
  · exact pick_any g B A n xs m (by omega) hn k h1 hk2 w h
  · obtain rfl : k = 1 := by omega
    go_enter Try.func49, Try.ntmps49
    go_wp2
    go_ret
    exact ⟨_, rfl, by omega, by omega, h.more (by omega), Within.refl _ _ _⟩
/-- a crane and its chart, in whatever world the source alone has turned -/
def CraneIn (w : World) (g b off lo : Nat) (p : Crane) : Prop := ∀ w', Within g (g + 1) w w' → (w'.cell? ⟨b, off, none⟩ = some (.string p.v.name) ∧ w'.cell? ⟨b, off + 1, none⟩ = some (.int .i64 p.v.ax) ∧ w'.cell? ⟨b, off + 2, none⟩ = some (.int .i64 p.v.ay) ∧ w'.cell? ⟨b, off + 3, none⟩ = some (.int .i64 p.v.height) ∧ w'.cell? ⟨b, off + 4, none⟩ = some (.int .i64 p.v.jib) ∧ w'.cell? ⟨b, off + 5, none⟩ = some (.int .i64 p.v.back) ∧ w'.cell? ⟨b, off + 6, none⟩ = some (.slice p.r.a p.r.n p.r.cap)) ∧ Arr ChartStep.cs 2 w' lo w'.heap.size p.r.a p.r.n p.r.xs
theorem last_bd {xs : List ChartStep} (h : chartOk xs = true) : 1 ≤ lastR xs ∧ lastR xs ≤ 1000 := by
  have hl := chartOk_len h
  have hx : xs[xs.length - 1]? = some xs[xs.length - 1] := List.getElem?_eq_getElem (by omega)
  unfold lastR
  rw [hx]
  exact (chartOk_at h hx).1
/-- what is known of a lift that l09Fit hands back -/
structure FitV (name : ByteArray) (v : LiftV) : Prop where
  name : v.name = name
  fp : Plc v.fx v.fy
  tp : Plc v.tx v.ty
  nums : (100 ≤ v.weight ∧ v.weight ≤ 3099) ∧ (0 ≤ v.height ∧ v.height ≤ 1999) ∧ (100 ≤ v.deadline ∧ v.deadline ≤ 5099)
def FitC (g B : Nat) (A : Option Addr) (n : Nat) (xs : List Int) (m : Nat) (name : ByteArray) (w : World) (e : Ending) (w' : World) : Prop :=
  ∃ (v : LiftV) (aa : Option Addr) (ac : Nat), e = .returned (.agg #[.string v.name, .int .i64 v.weight, .int .i64 v.fx, .int .i64 v.fy, .int .i64 v.tx, .int .i64 v.ty, .int .i64 v.height, .int .i64 v.deadline, .slice aa 0 ac]) ∧ FitV name v ∧ Grow ic 1 w' w.heap.size 2 (.slice aa 0 ac) [] ∧ Src w' g B A n xs m ∧ Within g (g + 1) w w'
theorem fit_end (g B : Nat) (A : Option Addr) (n : Nat) (xs : List Int) (m : Nat) (name : ByteArray) (w : World) (v : LiftV) (aa : Option Addr) (ac : Nat) (a : Act) (W' : World) (h6 : a.tmps.getD 6 undef = .pointer (some ⟨w.heap.size, 0, none⟩)) (hd : a.defers = [])
    (hB : Blk W' w.heap.size 40 #[.string v.name, .int .i64 v.weight, .int .i64 v.fx, .int .i64 v.fy, .int .i64 v.tx, .int .i64 v.ty, .int .i64 v.height, .int .i64 v.deadline, .slice aa 0 ac]) (h1 : FitV name v) (h4 : Grow ic 1 W' w.heap.size 2 (.slice aa 0 ac) []) (h2 : Src W' g B A n xs m) (h3 : Within g (g + 1) w W') :
    bodyPost Try.prog Try.f54 (FitC g B A n xs m name w) Exit.ret a W' := by
  obtain ⟨c0, c1, c2, c3, c4, c5, c6, c7, c8⟩ := Lift.blk hB
  obtain ⟨tmps, defers⟩ := a
  dsimp only at h6 hd
  subst hd
  have k6 : tmps[6]?.getD undef = .pointer (some ⟨w.heap.size, 0, none⟩) := by simpa using h6
  exact bodyPost_ret (v := .agg #[.string v.name, .int .i64 v.weight, .int .i64 v.fx, .int .i64 v.fy, .int .i64 v.tx, .int .i64 v.ty, .int .i64 v.height, .int .i64 v.deadline, .slice aa 0 ac]) (by simp [results, Try.results54, go_sem, k6, c0, c1, c2, c3, c4, c5, c6, c7, c8]) rfl ⟨v, aa, ac, rfl, h1, h4, h2, h3⟩
set_option maxRecDepth 100000 in
set_option maxHeartbeats 3200000 in
theorem l09Fit_any (g B : Nat) (A : Option Addr) (n : Nat) (xs : List Int) (m : Nat) (hm : m ≤ 700000) (hn : n ≤ 1000000) (b off lo : Nat) (p : Crane) (nm : ByteArray) (hnm : nm.size ≤ 1) (w : World) (h : Src w g B A n xs m) (hbl : b < w.heap.size) (hci : CraneIn w g b off lo p) (hok : craneOk p.val = true) (hwf : p.wf) (hpos : (-600 ≤ p.v.ax ∧ p.v.ax ≤ 600) ∧ (-600 ≤ p.v.ay ∧ p.v.ay ≤ 600)) :
    Calls Try.prog 54 #[.pointer (some ⟨g, 0, none⟩), .pointer (some ⟨b, off, none⟩), .string nm] w (FitC g B A n xs (m + 50) nm w) := by
  have hg := h.lt
  have HCI := Lib.hid hci
  have HOK := Lib.hid hok
  have HPOS := Lib.hid hpos
  have hpt := craneOk_parts hok
  have hch : chartOk p.r.xs = true := hpt.chart
  have hht : 1 ≤ p.v.height ∧ p.v.height ≤ 2000 := hpt.height
  have hlb := last_bd hch
  have hrn : 0 < p.r.n := by
    have := (hci w (Within.refl _ _ _)).2.1
    have := (chartOk_len hch).1
    omega
  clear hci hok hpos hpt hch
  obtain ⟨LR, hLR⟩ : ∃ r, lastR p.r.xs = r := ⟨_, rfl⟩
  rw [hLR] at hlb
  have HLR := Lib.hid hLR
  clear hLR
  have HLAST : Hid (∀ w', Within g (g + 1) w w' → Calls Try.prog 82 #[.slice p.r.a p.r.n p.r.cap] w' fun e w'' => e = .returned (.int .i64 LR) ∧ w' = w'') := fun w' hw => by rw [← HLR.out]; exact l03Last_any p.r.a p.r.n p.r.cap p.r.xs w' lo _ (HCI.out w' hw).2 hrn hwf.n
  obtain ⟨W, hW⟩ : ∃ W : World, W = w.alloc (.cells #[.string ⟨#[]⟩, .int .i64 0, .int .i64 0, .int .i64 0, .int .i64 0, .int .i64 0, .int .i64 0, .int .i64 0, .slice none 0 0] 40) := ⟨_, rfl⟩
  have hb0 : RowKit.Below w.heap.size w W := by rw [hW]; exact (Below.refl _ _).alloc (Nat.le_refl _) _
  have hR0 : Blk W w.heap.size 40 #[.string ⟨#[]⟩, .int .i64 0, .int .i64 0, .int .i64 0, .int .i64 0, .int .i64 0, .int .i64 0, .int .i64 0, .slice none 0 0] := by rw [hW]; exact Blk.new _ _ _
  have hwb : Within g (g + 1) w W := .of_below _ _ hb0
  have hWs : w.heap.size < W.heap.size := hR0.lt
  go_enter Try.func54, Try.ntmps54
  go_wp2_with fail
  rw [← hW]
  clear hW
  refine (l08DrawOne_any g B A n xs m (by omega) hn 0 (by omega) nm hnm W (h.bel hb0)).mono ?_
  rintro e w1 ⟨q, rfl, hdr, hs1, hw1⟩
  obtain ⟨⟨qn, wt, fx, fy, tx, ty, hh, dl⟩, ⟨aa, rn, ac, ys⟩⟩ := q
  obtain ⟨e1, hpl, hnu, _, _, hrn0, _, hgr⟩ := hdr
  dsimp only at e1 hpl hnu hrn0 hgr
  obtain rfl : rn = 0 := by omega
  obtain rfl : nm = qn := e1.symm
  have hys : ys = [] := by
    have := hgr.1
    exact List.length_eq_zero_iff.1 (by have := hgr.slice; obtain ⟨_, _, e, _⟩ := this; injection e with _ e2 _; omega)
  subst hys
  dsimp only
  have hs1z := hw1.size
  obtain ⟨w2, hW2⟩ : ∃ V : World, V = w1.alloc (.cells #[.string nm, .int .i64 wt, .int .i64 fx, .int .i64 fy, .int .i64 tx, .int .i64 ty, .int .i64 hh, .int .i64 dl, .slice aa 0 ac] 40) := ⟨_, rfl⟩
  have hb2 : RowKit.Below w1.heap.size w1 w2 := by rw [hW2]; exact (Below.refl _ _).alloc (Nat.le_refl _) _
  have hP_w2 : Blk w2 w1.heap.size 40 #[.string nm, .int .i64 wt, .int .i64 fx, .int .i64 fy, .int .i64 tx, .int .i64 ty, .int .i64 hh, .int .i64 dl, .slice aa 0 ac] := by rw [hW2]; exact Blk.new _ _ _
  have hR_w2 := (hR0.after hw1 (by omega)).bel hb2
  have hG_w2 := hgr.bel hb2
  have hS_w2 := hs1.bel hb2
  have hT_w2 := (hwb.trans hw1).trans (.of_below g (g + 1) hb2)
  obtain ⟨lb, hlbq⟩ : ∃ l, w1.heap.size = l := ⟨_, rfl⟩
  rw [hlbq] at hP_w2 hb2
  have hlb2 := hP_w2.lt
  have hlr : w.heap.size < lb := by omega
  obtain ⟨c0, c1, c2, c3, c4, c5, c6⟩ := (HCI.out w2 hT_w2).1
  have hrow := (HCI.out w2 hT_w2).2
  go_wp2_with fail
  rw [← hW2]
  clear hW2
  refine (l04Ok_any b off p w2 lo hwf.v.name hrow hwf.n (by have := hT_w2.size; omega) c0 c1 c2 c3 c4 c5 c6).mono ?_
  rintro e w3 ⟨rfl, hb3⟩
  rw [HOK.out]
  clear c0 c1 c2 c3 c4 c5 c6 hrow hb2 hlbq hR0 hgr hs1 hw1 hwb hb0
  have hP_w3 := hP_w2.bel hb3
  have hR_w3 := hR_w2.bel hb3
  have hG_w3 := hG_w2.bel hb3
  have hS_w3 := hS_w2.bel hb3
  have hT_w3 := hT_w2.trans (.of_below g (g + 1) hb3)
  have hZ_w3 := hb3.size
  clear hP_w2 hR_w2 hG_w2 hS_w2 hT_w2 hb3
  go_wp2_with fail
  refine (pick_any g B A n xs (m + 30) (by omega) hn 24 (by omega) (by omega) w3 hS_w3).mono ?_
  rintro e v1 ⟨d1, rfl, hd0, hd1, hs9, hw9⟩
  have hP_v1 := hP_w3.after hw9 (by omega)
  have hR_v1 := hR_w3.after hw9 (by omega)
  have hG_v1 := hG_w3.far2 hw9 (by omega)
  have hS_v1 := hs9
  have hT_v1 := hT_w3.trans hw9
  have hZ_v1 := hw9.size
  clear hP_w3 hR_w3 hG_w3 hS_w3 hT_w3 hs9 hw9
  obtain ⟨d, hdd⟩ := Int.eq_ofNat_of_zero_le hd0
  subst hdd
  have hd24 : d < 24 := by omega
  clear hd0 hd1
  have HT := Lib.hid hT_v1
  have HS := Lib.hid hS_v1
  have HP := Lib.hid hP_v1
  have HR := Lib.hid hR_v1
  have HG := Lib.hid hG_v1
  obtain ⟨c0, c1, c2, c3, c4, c5, c6⟩ := (HCI.out v1 hT_v1).1
  have hbv : b < v1.heap.size := by have := hT_v1.size; omega
  clear hP_v1 hR_v1 hG_v1 hS_v1 hT_v1
  have HPK : Hid (Calls Try.prog 49 #[.pointer (some ⟨g, 0, none⟩), .int .i64 LR] v1.drew (Asks g B A n xs ((m + 30) + 2 + 2) 0 (LR - 1) v1.drew)) := pick1_any g B A n xs ((m + 30) + 2) (by omega) hn LR (by omega) (by omega) _ (HS.out.bel ((Below.refl _ _).drew))
  have HWD : Hid (∀ w4, Within g (g + 1) v1.drew w4 → Within g (g + 1) v1 w4) := fun w4 hw => Within.trans (.of_below _ _ ((Below.refl v1.heap.size v1).drew)) hw
  go_upto_region 5 with fail
  go_cut [] (fun wx => ∃ X Y : Int, Plc X Y ∧ Blk wx lb 40 #[.string nm, .int .i64 wt, .int .i64 X, .int .i64 Y, .int .i64 tx, .int .i64 ty, .int .i64 hh, .int .i64 dl, .slice aa 0 ac] ∧ Blk wx w.heap.size 40 #[.string ⟨#[]⟩, .int .i64 0, .int .i64 0, .int .i64 0, .int .i64 0, .int .i64 0, .int .i64 0, .int .i64 0, .slice none 0 0] ∧ Grow ic 1 wx W.heap.size 2 (.slice aa 0 ac) [] ∧ Src wx g B A n xs ((m + 30) + 2 + 2) ∧ Within g (g + 1) w wx ∧ lb < wx.heap.size)
  case first =>
    go_region_law ((first | (go_simp; go_at_call 82; refine (HLAST.out _ (HT.out.trans (.of_below g (g + 1) ((Below.refl _ _).drew)))).mono ?_; rintro e w8 ⟨rfl, rfl⟩) | (go_simp; go_at_call 49; refine HPK.out.mono ?_; rintro e w4 ⟨rr, rfl, hr0, hr1, hs4, hw4⟩; have hwx := HWD.out w4 hw4; have hwz := hwx.size; obtain ⟨k0, k1, k2, k3, k4, k5, k6⟩ := (HCI.out w4 (HT.out.trans hwx)).1; have HWX := Lib.hid hwx; have HS4 := Lib.hid hs4; clear hwx hs4 hw4) | (go_simp; go_at_call 81; refine (l02At_near d rr p.v.ax p.v.ay hd24 (by omega) HPOS.out _).mono ?_; rintro e w5 ⟨X, Y, rfl, hXY, hb5⟩; have hP5 := (HP.out.after HWX.out (by omega)).bel hb5; have q0 : w5.cell? ⟨lb, 2, none⟩ = some (.int .i64 fx) := hP5.cell 2; have q1 : w5.cell? ⟨lb, 3, none⟩ = some (.int .i64 fy) := hP5.cell 3; have f0 := hP5.frozen 2; have f1 := hP5.frozen 3; have hl5 := hP5.lt; have HP5 := Lib.hid hP5; have HB5 := Lib.hid hb5; have HXY := Lib.hid hXY; clear hP5 hb5 hXY)))
    all_goals
      have hP6 : Blk (w5.setCell ⟨lb, 2, none⟩ (.int .i64 X)) lb 40 #[.string nm, .int .i64 wt, .int .i64 X, .int .i64 fy, .int .i64 tx, .int .i64 ty, .int .i64 hh, .int .i64 dl, .slice aa 0 ac] := HP5.out.set_lit (i := 2) rfl
      have hP7 : Blk ((w5.setCell ⟨lb, 2, none⟩ (.int .i64 X)).setCell ⟨lb, 3, none⟩ (.int .i64 Y)) lb 40 #[.string nm, .int .i64 wt, .int .i64 X, .int .i64 Y, .int .i64 tx, .int .i64 ty, .int .i64 hh, .int .i64 dl, .slice aa 0 ac] := hP6.set_lit (i := 3) rfl
      have HA : Hid (Blk ((w5.setCell ⟨lb, 2, none⟩ (.int .i64 X)).setCell ⟨lb, 3, none⟩ (.int .i64 Y)) w.heap.size 40 #[.string ⟨#[]⟩, .int .i64 0, .int .i64 0, .int .i64 0, .int .i64 0, .int .i64 0, .int .i64 0, .int .i64 0, .slice none 0 0]) := (((HR.out.after HWX.out (by omega)).bel HB5.out).far (p := ⟨lb, 2, none⟩) (by show w.heap.size ≠ lb; omega) _).far (p := ⟨lb, 3, none⟩) (by show w.heap.size ≠ lb; omega) _
      have HGG : Hid (Grow ic 1 ((w5.setCell ⟨lb, 2, none⟩ (.int .i64 X)).setCell ⟨lb, 3, none⟩ (.int .i64 Y)) W.heap.size 2 (.slice aa 0 ac) []) := (((HG.out.far2 HWX.out (by omega)).bel HB5.out).setBlk HP5.out (by decide) _).setBlk hP6 (by decide) _
      have HSS : Hid (Src ((w5.setCell ⟨lb, 2, none⟩ (.int .i64 X)).setCell ⟨lb, 3, none⟩ (.int .i64 Y)) g B A n xs ((m + 30) + 2 + 2)) := ((HS4.out.bel HB5.out).set (p := ⟨lb, 2, none⟩) (by show g < lb; omega) _).set (p := ⟨lb, 3, none⟩) (by show g < lb; omega) _
      have HTT : Hid (Within g (g + 1) w ((w5.setCell ⟨lb, 2, none⟩ (.int .i64 X)).setCell ⟨lb, 3, none⟩ (.int .i64 Y))) := (((HT.out.trans HWX.out).trans (.of_below g (g + 1) HB5.out)).fresh (p := ⟨lb, 2, none⟩) (by show _ ≤ lb; omega) _).fresh (p := ⟨lb, 3, none⟩) (by show _ ≤ lb; omega) _
      have HP7 := Lib.hid hP7
      clear hP6 hP7
      go_wp2_with fail
      go_meet
      exact ⟨X, Y, HXY.out, HP7.out, HA.out, HGG.out, HSS.out, HTT.out, HP7.out.lt⟩
  case rest =>
  obtain ⟨ux, uy, hPl1, hP_u1, hR_u1, hG_u1, hS_u1, hT_u1, hZ_u1⟩ := hcut
  rename World => u1
  clear HT HS HP HR HG c0 c1 c2 c3 c4 c5 c6
  go_wp2_with fail
  refine (pick_any g B A n xs (m + 30 + 2 + 2) (by omega) hn 24 (by omega) (by omega) u1 hS_u1).mono ?_
  rintro e v2 ⟨d2, rfl, hd0, hd1, hs9, hw9⟩
  have hP_v2 := hP_u1.after hw9 (by omega)
  have hR_v2 := hR_u1.after hw9 (by omega)
  have hG_v2 := hG_u1.far2 hw9 (by omega)
  have hS_v2 := hs9
  have hT_v2 := hT_u1.trans hw9
  have hZ_v2 := hw9.size
  clear hP_u1 hR_u1 hG_u1 hS_u1 hT_u1 hs9 hw9
  obtain ⟨d, hdd⟩ := Int.eq_ofNat_of_zero_le hd0
  subst hdd
  have hd24 : d < 24 := by omega
  clear hd0 hd1
  have HT := Lib.hid hT_v2
  have HS := Lib.hid hS_v2
  have HP := Lib.hid hP_v2
  have HR := Lib.hid hR_v2
  have HG := Lib.hid hG_v2
  obtain ⟨c0, c1, c2, c3, c4, c5, c6⟩ := (HCI.out v2 hT_v2).1
  have hbv : b < v2.heap.size := by have := hT_v2.size; omega
  clear hP_v2 hR_v2 hG_v2 hS_v2 hT_v2
  have HPK : Hid (Calls Try.prog 49 #[.pointer (some ⟨g, 0, none⟩), .int .i64 LR] v2.drew (Asks g B A n xs ((m + 30 + 2 + 2) + 2 + 2) 0 (LR - 1) v2.drew)) := pick1_any g B A n xs ((m + 30 + 2 + 2) + 2) (by omega) hn LR (by omega) (by omega) _ (HS.out.bel ((Below.refl _ _).drew))
  have HWD : Hid (∀ w4, Within g (g + 1) v2.drew w4 → Within g (g + 1) v2 w4) := fun w4 hw => Within.trans (.of_below _ _ ((Below.refl v2.heap.size v2).drew)) hw
  go_upto_region 7 with fail
  go_cut [] (fun wx => ∃ X Y : Int, Plc X Y ∧ Blk wx lb 40 #[.string nm, .int .i64 wt, .int .i64 ux, .int .i64 uy, .int .i64 X, .int .i64 Y, .int .i64 hh, .int .i64 dl, .slice aa 0 ac] ∧ Blk wx w.heap.size 40 #[.string ⟨#[]⟩, .int .i64 0, .int .i64 0, .int .i64 0, .int .i64 0, .int .i64 0, .int .i64 0, .int .i64 0, .slice none 0 0] ∧ Grow ic 1 wx W.heap.size 2 (.slice aa 0 ac) [] ∧ Src wx g B A n xs ((m + 30 + 2 + 2) + 2 + 2) ∧ Within g (g + 1) w wx ∧ lb < wx.heap.size)
  case first =>
    go_region_law ((first | (go_simp; go_at_call 82; refine (HLAST.out _ (HT.out.trans (.of_below g (g + 1) ((Below.refl _ _).drew)))).mono ?_; rintro e w8 ⟨rfl, rfl⟩) | (go_simp; go_at_call 49; refine HPK.out.mono ?_; rintro e w4 ⟨rr, rfl, hr0, hr1, hs4, hw4⟩; have hwx := HWD.out w4 hw4; have hwz := hwx.size; obtain ⟨k0, k1, k2, k3, k4, k5, k6⟩ := (HCI.out w4 (HT.out.trans hwx)).1; have HWX := Lib.hid hwx; have HS4 := Lib.hid hs4; clear hwx hs4 hw4) | (go_simp; go_at_call 81; refine (l02At_near d rr p.v.ax p.v.ay hd24 (by omega) HPOS.out _).mono ?_; rintro e w5 ⟨X, Y, rfl, hXY, hb5⟩; have hP5 := (HP.out.after HWX.out (by omega)).bel hb5; have q0 : w5.cell? ⟨lb, 4, none⟩ = some (.int .i64 tx) := hP5.cell 4; have q1 : w5.cell? ⟨lb, 5, none⟩ = some (.int .i64 ty) := hP5.cell 5; have f0 := hP5.frozen 4; have f1 := hP5.frozen 5; have hl5 := hP5.lt; have HP5 := Lib.hid hP5; have HB5 := Lib.hid hb5; have HXY := Lib.hid hXY; clear hP5 hb5 hXY)))
    all_goals
      have hP6 : Blk (w5.setCell ⟨lb, 4, none⟩ (.int .i64 X)) lb 40 #[.string nm, .int .i64 wt, .int .i64 ux, .int .i64 uy, .int .i64 X, .int .i64 ty, .int .i64 hh, .int .i64 dl, .slice aa 0 ac] := HP5.out.set_lit (i := 4) rfl
      have hP7 : Blk ((w5.setCell ⟨lb, 4, none⟩ (.int .i64 X)).setCell ⟨lb, 5, none⟩ (.int .i64 Y)) lb 40 #[.string nm, .int .i64 wt, .int .i64 ux, .int .i64 uy, .int .i64 X, .int .i64 Y, .int .i64 hh, .int .i64 dl, .slice aa 0 ac] := hP6.set_lit (i := 5) rfl
      have HA : Hid (Blk ((w5.setCell ⟨lb, 4, none⟩ (.int .i64 X)).setCell ⟨lb, 5, none⟩ (.int .i64 Y)) w.heap.size 40 #[.string ⟨#[]⟩, .int .i64 0, .int .i64 0, .int .i64 0, .int .i64 0, .int .i64 0, .int .i64 0, .int .i64 0, .slice none 0 0]) := (((HR.out.after HWX.out (by omega)).bel HB5.out).far (p := ⟨lb, 4, none⟩) (by show w.heap.size ≠ lb; omega) _).far (p := ⟨lb, 5, none⟩) (by show w.heap.size ≠ lb; omega) _
      have HGG : Hid (Grow ic 1 ((w5.setCell ⟨lb, 4, none⟩ (.int .i64 X)).setCell ⟨lb, 5, none⟩ (.int .i64 Y)) W.heap.size 2 (.slice aa 0 ac) []) := (((HG.out.far2 HWX.out (by omega)).bel HB5.out).setBlk HP5.out (by decide) _).setBlk hP6 (by decide) _
      have HSS : Hid (Src ((w5.setCell ⟨lb, 4, none⟩ (.int .i64 X)).setCell ⟨lb, 5, none⟩ (.int .i64 Y)) g B A n xs ((m + 30 + 2 + 2) + 2 + 2)) := ((HS4.out.bel HB5.out).set (p := ⟨lb, 4, none⟩) (by show g < lb; omega) _).set (p := ⟨lb, 5, none⟩) (by show g < lb; omega) _
      have HTT : Hid (Within g (g + 1) w ((w5.setCell ⟨lb, 4, none⟩ (.int .i64 X)).setCell ⟨lb, 5, none⟩ (.int .i64 Y))) := (((HT.out.trans HWX.out).trans (.of_below g (g + 1) HB5.out)).fresh (p := ⟨lb, 4, none⟩) (by show _ ≤ lb; omega) _).fresh (p := ⟨lb, 5, none⟩) (by show _ ≤ lb; omega) _
      have HP7 := Lib.hid hP7
      clear hP6 hP7
      go_wp2_with fail
      go_meet
      exact ⟨X, Y, HXY.out, HP7.out, HA.out, HGG.out, HSS.out, HTT.out, HP7.out.lt⟩
  case rest =>
  obtain ⟨vx, vy, hPl2, hP_u2, hR_u2, hG_u2, hS_u2, hT_u2, hZ_u2⟩ := hcut
  rename World => u2
  clear HT HS HP HR HG c0 c1 c2 c3 c4 c5 c6
  obtain ⟨c0, c1, c2, c3, c4, c5, c6⟩ := (HCI.out u2 hT_u2).1
  have hbv : b < u2.heap.size := by have := hT_u2.size; omega
  go_wp2_with fail
  refine (max_any 1 p.v.height u2 (v := p.v.height) (by omega)).mono ?_
  rintro e w7 ⟨rfl, rfl⟩
  clear c0 c1 c2 c3 c4 c5 c6
  go_wp2_with fail
  refine (pick1_any g B A n xs (m + 30 + 2 + 2 + 2 + 2) (by omega) hn p.v.height (by omega) (by omega) u2 hS_u2).mono ?_
  rintro e w8 ⟨h9, rfl, hh0, hh1, hs9, hw9⟩
  have hP_w8 := hP_u2.after hw9 (by omega)
  have hR_w8 := hR_u2.after hw9 (by omega)
  have hG_w8 := hG_u2.far2 hw9 (by omega)
  have hS_w8 := hs9
  have hT_w8 := hT_u2.trans hw9
  have hZ_w8 := hw9.size
  clear hP_u2 hR_u2 hG_u2 hS_u2 hT_u2 hs9 hw9
  have q6 : w8.cell? ⟨lb, 6, none⟩ = some (.int .i64 hh) := hP_w8.cell 6
  have f6 := hP_w8.frozen 6
  have hl8 := hP_w8.lt
  obtain ⟨w9, hW9⟩ : ∃ V : World, V = w8.setCell ⟨lb, 6, none⟩ (.int .i64 h9) := ⟨_, rfl⟩
  have hP_w9 : Blk w9 lb 40 #[.string nm, .int .i64 wt, .int .i64 ux, .int .i64 uy, .int .i64 vx, .int .i64 vy, .int .i64 h9, .int .i64 dl, .slice aa 0 ac] := by rw [hW9]; exact hP_w8.set_lit (i := 6) rfl
  have hR_w9 : Blk w9 w.heap.size 40 #[.string ⟨#[]⟩, .int .i64 0, .int .i64 0, .int .i64 0, .int .i64 0, .int .i64 0, .int .i64 0, .int .i64 0, .slice none 0 0] := by rw [hW9]; exact hR_w8.far (p := ⟨lb, 6, none⟩) (by show w.heap.size ≠ lb; omega) _
  have hG_w9 : Grow ic 1 w9 W.heap.size 2 (.slice aa 0 ac) [] := by rw [hW9]; exact hG_w8.setBlk hP_w8 (by decide) _
  have hS_w9 : Src w9 g B A n xs (m + 30 + 2 + 2 + 2 + 2 + 2) := by rw [hW9]; exact hS_w8.set (p := ⟨lb, 6, none⟩) (by show g < lb; omega) _
  have hT_w9 : Within g (g + 1) w w9 := by rw [hW9]; exact hT_w8.fresh (p := ⟨lb, 6, none⟩) (by show _ ≤ lb; omega) _
  obtain ⟨e0, e1, e2, e3, e4, e5, e6, e7, e8⟩ := Lift.blk hP_w9
  obtain ⟨z0, z1, z2, z3, z4, z5, z6, z7, z8⟩ := Lift.blk hR_w9
  obtain ⟨y0, y1, y2, y3, y4, y5, y6, y7, y8⟩ := Lift.fro hR_w9
  have HP9 := Lib.hid hP_w9
  have HR9 := Lib.hid hR_w9
  have HG9 := Lib.hid hG_w9
  have HS9 := Lib.hid hS_w9
  have HT9 := Lib.hid hT_w9
  have HF1 := Lib.hid hPl1
  have HF2 := Lib.hid hPl2
  clear hP_w8 hR_w8 hG_w8 hS_w8 hT_w8 hP_w9 hR_w9 hG_w9 hS_w9 hT_w9 hPl1 hPl2
  rw [hW9] at e0 e1 e2 e3 e4 e5 e6 e7 e8 z0 z1 z2 z3 z4 z5 z6 z7 z8 y0 y1 y2 y3 y4 y5 y6 y7 y8
  go_wp2
  rw [← hW9]
  clear hW9
  rw [putL_eq]
  have hself := putL_self w9 w.heap.size (.string nm) (.int .i64 wt) (.int .i64 ux) (.int .i64 uy) (.int .i64 vx) (.int .i64 vy) (.int .i64 h9) (.int .i64 dl) (.slice aa 0 ac)
  refine fit_end g B A n xs (m + 50) nm w ⟨nm, wt, ux, uy, vx, vy, h9, dl⟩ aa ac _ _ rfl rfl (putL_blk HR9.out _ _ _ _ _ _ _ _ _) ⟨rfl, HF1.out, HF2.out, ⟨⟨hnu.1, hnu.2.1⟩, ⟨hh0, by show h9 ≤ 1999; omega⟩, hnu.2.2.2.2.1, hnu.2.2.2.2.2⟩⟩ ((HG9.out.far2 hself (by omega)).less (by omega)) ((HS9.out.far hself (by omega)).more (by omega)) (putL_within HT9.out (Nat.le_refl _) _ _ _ _ _ _ _ _ _)
end Go.Proofs.Ytnidnmbicnhflaa
