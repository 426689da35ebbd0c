/- FnHeaviest: the walk: the law returns true for every input. -/
import Derived.Test.YtkegncanmfmmmaaDoorHv7
import Derived.Test.YtkegncanmfmmmaaDoorHv9
import Derived.Test.YtkegncanmfmmmaaDoorLong
namespace Go.Proofs.YtkegncanmfmmmaaDoor.lawHeaviest
open Go.RowKit Go.Sort
set_option linter.unusedVariables false

attribute [local irreducible] dirN
def theLift (qx qy rx ry : Int) : Lift := ⟨⟨⟨#[97]⟩, 1, qx, qy, rx, ry, 0, 1⟩, ⟨none, 0, 0, []⟩⟩
theorem lift_plain {qx qy rx ry : Int} (hq : Plc qx qy) (hr : Plc rx ry) : plainB (theLift qx qy rx ry).v = true := by
  unfold plainB theLift
  dsimp only
  rw [plcB_of hq, plcB_of hr]
  decide
theorem radii_eq (p : Crane) (qx qy rx ry : Int) (w : World) (lo : Nat) (hr : Arr ChartStep.cs 2 w lo w.heap.size p.r.a p.r.n p.r.xs) (hw : p.wf) (hok : craneOk p.val = true) (h2 : Plc qx qy) (h3 : Plc rx ry) {a b : Int} (ha : rt (sqD p.v.ax p.v.ay qx qy) = a) (hb : rt (sqD p.v.ax p.v.ay rx ry) = b) :
    Calls Tryd.prog 12 #[.agg #[.string p.v.name, .int .i64 p.v.ax, .int .i64 p.v.ay, .int .i64 p.v.height, .int .i64 p.v.jib, .int .i64 p.v.back, .slice p.r.a p.r.n p.r.cap], .agg #[.string ⟨#[97]⟩, .int .i64 1, .int .i64 qx, .int .i64 qy, .int .i64 rx, .int .i64 ry, .int .i64 0, .int .i64 1, .slice none 0 0]] w fun e w' => e = .returned (.tuple #[.int .i64 a, .int .i64 b, .int .i64 0]) ∧ RowKit.Below w.heap.size w w' := by
  have h := liftRadii_any p (theLift qx qy rx ry) w lo 0 hr hw.n hw.v.name (by show (⟨#[97]⟩ : ByteArray).size ≤ _; decide)
  have hk : okB p.val (theLift qx qy rx ry).v = true := by unfold okB; rw [hok, lift_plain h2 h3]; rfl
  obtain ⟨e1, e2, e3⟩ := lr_0 hk
  rw [e1, e2, e3] at h
  subst ha hb
  exact h
theorem dirs_eq (p : Crane) (qx qy rx ry : Int) (w : World) (lo : Nat) (hr : Arr ChartStep.cs 2 w lo w.heap.size p.r.a p.r.n p.r.xs) (hw : p.wf) (hok : craneOk p.val = true) (h2 : Plc qx qy) (h3 : Plc rx ry) (hqt : QtrW w) {a b : Int} (ha : dirN (qx - p.v.ax) (qy - p.v.ay) = a) (hb : dirN (rx - p.v.ax) (ry - p.v.ay) = b) :
    Calls Tryd.prog 13 #[.agg #[.string p.v.name, .int .i64 p.v.ax, .int .i64 p.v.ay, .int .i64 p.v.height, .int .i64 p.v.jib, .int .i64 p.v.back, .slice p.r.a p.r.n p.r.cap], .agg #[.string ⟨#[97]⟩, .int .i64 1, .int .i64 qx, .int .i64 qy, .int .i64 rx, .int .i64 ry, .int .i64 0, .int .i64 1, .slice none 0 0]] w fun e w' => e = .returned (.tuple #[.int .i64 a, .int .i64 b, .int .i64 0]) ∧ RowKit.Below w.heap.size w w' := by
  have h := liftDirections_any p (theLift qx qy rx ry) w lo 0 hr hw.n hw.v.name (by show (⟨#[97]⟩ : ByteArray).size ≤ _; decide) hqt
  have hk : okB p.val (theLift qx qy rx ry).v = true := by unfold okB; rw [hok, lift_plain h2 h3]; rfl
  obtain ⟨e1, e2, e3⟩ := ld_0 hk
  rw [e1, e2, e3] at h
  subst ha hb
  exact h
theorem siteN {w : World} {lo n : Nat} {A : Option Addr} {c : Nat} {ys : List Crane} (h : SiteG w lo A c ys) (hn : ys.length = n) : Cranes w lo w.heap.size A n ys ∧ n ≤ c := by subst hn; exact ⟨h.cranes, h.cap.1⟩
def WalkEnd (w : World) (e : Ending) (w' : World) : Prop := e = .returned (.bool true) ∧ RowKit.Below w.heap.size w w'
set_option maxRecDepth 100000 in
set_option maxHeartbeats 6400000 in
theorem walk (A0 : Option Addr) (n0 c0 : Nat) (xs0 : List Int) (A1 : Option Addr) (n1 c1 : Nat) (xs1 : List Int) (w : World) (hn0 : n0 ≤ 9223372036854775807) (ha0 : Arr bc 1 w 0 w.heap.size A0 n0 xs0 ∧ ∀ p ∈ xs0, 0 ≤ p ∧ p ≤ 255) (hn1 : n1 ≤ 9223372036854775807) (ha1 : Arr bc 1 w 0 w.heap.size A1 n1 xs1 ∧ ∀ p ∈ xs1, 0 ≤ p ∧ p ≤ 255) (hqt : QtrW w) :
    Calls Tryd.prog 3 #[.slice A0 n0 c0, .slice A1 n1 c1] w fun e w' => e = .returned (.bool true) ∧ RowKit.Below w.heap.size w w' := by
  have HQT := Lib.hid hqt
  clear hqt
  by_cases hl : (decide (3000 < n0) || decide (3000 < n1)) = true
  · have H := Lib.hid hl
    clear hl
    go_enter Tryd.func3, Tryd.ntmps3
    go_wp2_with fail
    refine (a2Long_any A0 A1 n0 c0 n1 c1 hn0 hn1 w).mono ?_
    rintro e w1 ⟨rfl, rfl⟩
    rw [H.out]
    go_wp2
    go_ret
    exact ⟨rfl, Below.refl _ _⟩
  have hle : n0 ≤ 3000 ∧ n1 ≤ 3000 := by
    rw [Bool.or_eq_true, decide_eq_true_eq, decide_eq_true_eq] at hl
    omega
  have H : Hid ((decide (3000 < n0) || decide (3000 < n1)) = false) := by show _ = _; simpa using hl
  obtain ⟨h0, x0⟩ := ha0
  obtain ⟨h1, x1⟩ := ha1
  clear hl
  go_enter Tryd.func3, Tryd.ntmps3
  go_wp2_with fail
  refine (a2Long_any A0 A1 n0 c0 n1 c1 hn0 hn1 w).mono ?_
  rintro e w1 ⟨rfl, rfl⟩
  rw [H.out]
  go_wp2_with fail
  refine (a2Site_any A0 n0 c0 xs0 w h0 x0 (by omega)).mono ?_
  rintro e w2 ⟨A, c, ps, rfl, hg, hb2⟩
  have hlen := hg.len
  obtain ⟨gb, go, _, eA, -⟩ := Crane.at hg.cranes (i := 0) (by omega)
  subst eA
  obtain ⟨n, hn⟩ : ∃ n, ps.length = n := ⟨_, rfl⟩
  have HN := Lib.hid hn
  rw [hn] at hlen
  obtain ⟨V1, hV1⟩ : ∃ V : World, V = w2.alloc (.cells #[.slice (some ⟨gb, go, none⟩) n c] 26) := ⟨_, rfl⟩
  have hu1 : RowKit.Below w2.heap.size w2 V1 := by rw [hV1]; exact (Below.refl _ _).alloc (Nat.le_refl _) _
  have KS1 : Blk V1 w2.heap.size 26 #[.slice (some ⟨gb, go, none⟩) n c] := by rw [hV1]; exact Blk.new _ _ _
  have hbV1 := hb2.trans (hu1.mono hb2.size)
  have hg1 := hg.bel hu1
  obtain ⟨gs, hgs⟩ : ∃ g, w2.heap.size = g := ⟨_, rfl⟩
  rw [hgs] at KS1
  rw [hn]
  go_wp2_with fail
  rw [← hV1]
  clear hV1
  refine (a2Places_any A1 n1 c1 xs1 V1 ((h1.below hbV1).more hbV1.size) x1 (by omega)).mono ?_
  rintro e w3 ⟨px, py, qx, qy, rx, ry, rfl, hp, hq, hr, hb3⟩
  clear h0 h1 x0 x1
  have HPp : Hid (Plc px py) := ⟨by omega, by omega⟩
  have HPq : Hid (Plc qx qy) := ⟨by omega, by omega⟩
  have HPr : Hid (Plc rx ry) := ⟨by omega, by omega⟩
  clear hp hq hr
  have KS3 := KS1.bel hb3
  have hg3 := hg1.bel hb3
  have hb03 := hbV1.trans (hb3.mono hbV1.size)
  obtain ⟨V, hV⟩ : ∃ V : World, V = ((w3.alloc (.cells #[.int .i64 px, .int .i64 py] 29)).alloc (.cells #[.int .i64 qx, .int .i64 qy] 29)).alloc (.cells #[.int .i64 rx, .int .i64 ry] 29) := ⟨_, rfl⟩
  have hu : RowKit.Below w3.heap.size w3 V := by rw [hV]; exact (((Below.refl _ _).alloc (Nat.le_refl _) _).alloc (by simp) _).alloc (by simp; omega) _
  have KP : Blk V w3.heap.size 29 #[.int .i64 px, .int .i64 py] := by rw [hV]; exact ((Blk.new _ _ _).alloc _).alloc _
  have KQ : Blk V (w3.heap.size + 1) 29 #[.int .i64 qx, .int .i64 qy] := by rw [hV]; exact (Blk.new_at rfl (by simp)).alloc _
  have KR : Blk V (w3.heap.size + 1 + 1) 29 #[.int .i64 rx, .int .i64 ry] := by rw [hV]; exact Blk.new_at rfl (by simp)
  have KS := KS3.bel hu
  have HG := Lib.hid (hg3.bel hu)
  have HB := Lib.hid (hb03.trans (hu.mono hb03.size))
  have s0 : V.cell? ⟨gs, 0, none⟩ = some (.slice (some ⟨gb, go, none⟩) n c) := KS.cell 0
  have p0 : V.cell? ⟨w3.heap.size, 0, none⟩ = some (.int .i64 px) := KP.cell 0
  have p1 : V.cell? ⟨w3.heap.size, 1, none⟩ = some (.int .i64 py) := KP.cell 1
  rw [hV] at s0 p0 p1
  clear KS1 KS3 hg hg1 hg3 hbV1 hb03 hb2 hb3 hu hu1 hgs
  go_wp2_with fail
  rw [← hV]
  clear hV s0 p0 p1
  refine (heaviestAt_any ⟨some ⟨gb, go, none⟩, n, c, ps⟩ (ps.map Crane.val) rfl px py V w.heap.size (siteN HG.out HN.out).1 (siteN HG.out HN.out).2 (by dsimp only; omega) HG.out.cap.2 HG.out.wf HG.out.ok HPp.out).mono ?_
  rintro e w4 ⟨he, hb4⟩
  have KS4 := Lib.hid (KS.bel hb4)
  have KP4 := Lib.hid (KP.bel hb4)
  have KQ4 := Lib.hid (KQ.bel hb4)
  have KR4 := Lib.hid (KR.bel hb4)
  have HG4 := Lib.hid (HG.out.bel hb4)
  have HB4 := Lib.hid (HB.out.trans (hb4.mono HB.out.size))
  clear KS KP KQ KR HG HB hb4
  obtain ⟨gp, hgp⟩ : ∃ g, w3.heap.size = g := ⟨_, rfl⟩
  rw [hgp] at KP4 KQ4 KR4 ⊢
  clear hgp
  obtain ⟨f, hf⟩ : ∃ f, hvF (ps.map Crane.val) px py = f := ⟨_, rfl⟩
  dsimp only at he
  rw [hf] at he
  have HLO : Hid (∀ j, -1 ≤ f j) := fun j => by rw [← hf]; exact (hvF_range HG4.out.ok px py j).1
  have HHI : Hid (∀ j, f j ≤ 50000) := fun j => by rw [← hf]; exact (hvF_range HG4.out.ok px py j).2
  have HFV : Hid (∀ (k : Nat) (p : Crane), ps[k]? = some p → f k = ldP p.val px py) := fun k p hk => by rw [← hf]; exact hvF_of (by rw [List.getElem?_map, hk]; rfl)
  clear hf
  have HCS := Lib.hid (hv_cases HLO.out n)
  obtain ⟨I, hI⟩ : ∃ I, hvI f n = I := ⟨_, rfl⟩
  obtain ⟨L, hL⟩ : ∃ I, hvL f n = I := ⟨_, rfl⟩
  obtain ⟨C, hC⟩ : ∃ I, hvC f n = I := ⟨_, rfl⟩
  rw [hI, hL, hC] at he HCS
  subst he
  clear hI hL hC
  rcases HCS.out with ⟨rfl, rfl, rfl, hall⟩ | ⟨rfl, hI0, hIn, hL0, hLI, hle, hlt⟩
  · have HALL := Lib.hid hall
    clear hall HCS
    have ks0 : w4.cell? ⟨gs, 0, none⟩ = some (.slice (some ⟨gb, go, none⟩) n c) := KS4.out.cell 0
    go_wp2
    clear ks0
    go_loopw [12, 13] (fun fv kv wr => ∃ k : Nat, k ≤ n ∧ kv = .int .i64 k ∧ fv = .bool (false) ∧ Blk wr gs 26 #[.slice (some ⟨gb, go, none⟩) n c] ∧ Blk wr gp 29 #[.int .i64 px, .int .i64 py] ∧ Blk wr (gp + 1) 29 #[.int .i64 qx, .int .i64 qy] ∧ Blk wr (gp + 1 + 1) 29 #[.int .i64 rx, .int .i64 ry] ∧ SiteG wr w.heap.size (some ⟨gb, go, none⟩) c ps ∧ RowKit.Below w.heap.size w wr) (fun _ kv _ => n - (intOf kv).toNat)
    case atStart => exact ⟨0, Nat.zero_le _, rfl, rfl, KS4.out, KP4.out, KQ4.out, KR4.out, HG4.out, HB4.out⟩
    case round =>
      obtain ⟨k, hk, rfl, rfl, hS, hP, hQ, hR, hG, hb⟩ := hrel
      have hsz := hb.size
      by_cases hlt : k < n
      · obtain ⟨b, off, p, eA, hx, _, hbl, hrow, c0, c1, c2, c3, c4, c5, c6⟩ := Crane.at (siteN hG HN.out).1 hlt
        obtain ⟨rfl, rfl⟩ : gb = b ∧ go = off := by injection eA with eA; injection eA with e1 e2; exact ⟨e1, e2⟩
        clear eA
        have hmem := List.mem_of_getElem? hx
        have HW := Lib.hid (hG.wf p hmem)
        have HOK := Lib.hid (siteOk_at hG.ok (i := k) (c := p.val) (by rw [List.getElem?_map, hx]; rfl))
        have hkn : (k : Int) < (n : Int) := by omega
        have hk0 : (0 : Int) ≤ (k : Int) := by omega
        obtain ⟨v, hv⟩ : ∃ v, f k = v := ⟨_, rfl⟩
        have HV := Lib.hid hv
        have HVP : Hid (ldP p.val px py = v) := (HFV.out k p hx).symm.trans hv
        have hv1 : -1 ≤ v := by rw [← hv]; exact HLO.out k
        have hv2 : v ≤ 50000 := by rw [← hv]; exact HHI.out k
        have HS := Lib.hid hS
        have HP := Lib.hid hP
        have HQ := Lib.hid hQ
        have HR := Lib.hid hR
        have HGG := Lib.hid hG
        have HBB := Lib.hid hb
        have HROW := Lib.hid hrow
        have s0 := cell_regrown ((hS.cell 0).trans rfl : wr.cell? ⟨gs, 0, none⟩ = some (.slice (some ⟨gb, go, none⟩) n c))
        have p0 := cell_regrown ((hP.cell 0).trans rfl : wr.cell? ⟨gp, 0, none⟩ = some (.int .i64 px))
        have p1 := cell_regrown ((hP.cell 1).trans rfl : wr.cell? ⟨gp, 1, none⟩ = some (.int .i64 py))
        have t0 := cell_regrown c0
        have t1 := cell_regrown c1
        have t2 := cell_regrown c2
        have t3 := cell_regrown c3
        have t4 := cell_regrown c4
        have t5 := cell_regrown c5
        have t6 := cell_regrown c6
        have ks : wr.cell? ⟨gs, 0, none⟩ = some (.slice (some ⟨gb, go, none⟩) n c) := hS.cell 0
        clear hS hP hQ hR hG hb hrow c0 c1 c2 c3 c4 c5 c6 hx hmem hv
        have HL : Hid (∀ (a b : Int), ((v < 0 ∧ a = 0 ∧ b = 3) ∨ (0 ≤ v ∧ a = v ∧ b = 0)) → ∀ d os, Calls Tryd.prog 11 #[.agg #[.string p.v.name, .int .i64 p.v.ax, .int .i64 p.v.ay, .int .i64 p.v.height, .int .i64 p.v.jib, .int .i64 p.v.back, .slice p.r.a p.r.n p.r.cap], .agg #[.int .i64 px, .int .i64 py]] (grow (redrawn wr d) os) fun e w' => e = .returned (.tuple #[.int .i64 a, .int .i64 b]) ∧ RowKit.Below (grow (redrawn wr d) os).heap.size (grow (redrawn wr d) os) w') := fun a b hab d os => by
          have hb9 := below_regrown wr d os
          exact specLoadAtPlace_any p px py _ w.heap.size ((HROW.out.below hb9).more hb9.size) HW.out HOK.out HPp.out (by rw [HVP.out]; exact hab)
        have hneg : v < 0 := by rw [← HV.out]; exact HALL.out k hlt
        go_wp2
        clear ks
        refine wp_region_quiet_below (by kernel_rfl) (by kernel_rfl) ?_
        repeat (go_big_quiet_step (first | (go_at_call 11; exact Calls.regrown_of (HL.out (0) 3 (by omega) _ _))))
        refine wpQuiet_nil ?_
        intro _ hw9
        obtain ⟨⟨dq, osq⟩, hw9⟩ := hw9
        subst hw9
        have h5 := below_regrown wr dq osq
        dsimp only at h5 ⊢
        generalize grow (redrawn wr dq) osq = w5 at h5 ⊢
        clear s0 p0 p1 t0 t1 t2 t3 t4 t5 t6 HL
        have HS5 := Lib.hid (HS.out.bel h5)
        have HP5 := Lib.hid (HP.out.bel h5)
        have HQ5 := Lib.hid (HQ.out.bel h5)
        have HR5 := Lib.hid (HR.out.bel h5)
        have HG5 := Lib.hid (HGG.out.bel h5)
        have HB5 := Lib.hid (HBB.out.trans (h5.mono HBB.out.size))
        clear h5
        go_wp2
        go_roundw
        case rel => exact ⟨k + 1, by omega, by go_num, rfl, HS5.out, HP5.out, HQ5.out, HR5.out, HG5.out, HB5.out⟩
        case measure => simp [intOf]; omega
      · obtain rfl : k = n := by omega
        have ks : wr.cell? ⟨gs, 0, none⟩ = some (.slice (some ⟨gb, go, none⟩) k c) := hS.cell 0
        have HFE : Hid ((true : Bool) = true) := rfl
        have hz0 := siteN hG HN.out
        obtain ⟨b, off, p0, eA, hx, _, hbl, hrow, c0, c1, c2, c3, c4, c5, c6⟩ := Crane.at hz0.1 (i := 0) (by omega)
        obtain ⟨rfl, rfl⟩ : gb = b ∧ go = off := by injection eA with eA; injection eA with e1 e2; exact ⟨e1, e2⟩
        simp only [Nat.zero_mul, Nat.add_zero] at c0 c1 c2 c3 c4 c5 c6
        clear eA hz0
        have hmem := List.mem_of_getElem? hx
        have HW := Lib.hid (hG.wf p0 hmem)
        have HOK := Lib.hid (siteOk_at hG.ok (i := 0) (c := p0.val) (by rw [List.getElem?_map, hx]; rfl))
        have HAT : Hid (Plc p0.v.ax p0.v.ay) := (craneOk_parts HOK.out).at_
        obtain ⟨V4, hV4⟩ : ∃ V : World, V = wr.alloc (.cells #[.string p0.v.name, .int .i64 p0.v.ax, .int .i64 p0.v.ay, .int .i64 p0.v.height, .int .i64 p0.v.jib, .int .i64 p0.v.back, .slice p0.r.a p0.r.n p0.r.cap] 38) := ⟨_, rfl⟩
        obtain ⟨V5, hV5⟩ : ∃ V : World, V = V4.alloc (.cells #[.string ⟨#[97]⟩, .int .i64 1, .int .i64 qx, .int .i64 qy, .int .i64 rx, .int .i64 ry, .int .i64 0, .int .i64 1, .slice none 0 0] 41) := ⟨_, rfl⟩
        have hu4 : RowKit.Below wr.heap.size wr V4 := by rw [hV4]; exact (Below.refl _ _).alloc (Nat.le_refl _) _
        have hu5 : RowKit.Below V4.heap.size V4 V5 := by rw [hV5]; exact (Below.refl _ _).alloc (Nat.le_refl _) _
        have hu45 := hu4.trans (hu5.mono hu4.size)
        have KC := ((by rw [hV4]; exact Blk.new _ _ _ : Blk V4 wr.heap.size 38 #[.string p0.v.name, .int .i64 p0.v.ax, .int .i64 p0.v.ay, .int .i64 p0.v.height, .int .i64 p0.v.jib, .int .i64 p0.v.back, .slice p0.r.a p0.r.n p0.r.cap])).bel hu5
        have KL : Blk V5 V4.heap.size 41 #[.string ⟨#[97]⟩, .int .i64 1, .int .i64 qx, .int .i64 qy, .int .i64 rx, .int .i64 ry, .int .i64 0, .int .i64 1, .slice none 0 0] := by rw [hV5]; exact Blk.new _ _ _
        have hz4 : V4.heap.size = wr.heap.size + 1 := by rw [hV4]; simp
        rw [hz4] at KL
        have q0 : wr.cell? ⟨gp + 1, 0, none⟩ = some (.int .i64 qx) := hQ.cell 0
        have q1 : wr.cell? ⟨gp + 1, 1, none⟩ = some (.int .i64 qy) := hQ.cell 1
        have r0 : wr.cell? ⟨gp + 1 + 1, 0, none⟩ = some (.int .i64 rx) := hR.cell 0
        have r1 : wr.cell? ⟨gp + 1 + 1, 1, none⟩ = some (.int .i64 ry) := hR.cell 1
        have lq := hQ.lt
        have lr := hR.lt
        have HQ5 := Lib.hid (hQ.bel hu45)
        have HR5 := Lib.hid (hR.bel hu45)
        have HROW := Lib.hid ((hrow.below hu45).more hu45.size)
        have HB5 := Lib.hid (hb.trans (hu45.mono hb.size))
        have HC5 := Lib.hid KC
        have HL5 := Lib.hid KL
        have hV5' := hV5
        rw [hV4] at hV5'
        have HFEq := HFE.out
        obtain ⟨da, hda⟩ : ∃ d, dirN (qx - p0.v.ax) (qy - p0.v.ay) = d := ⟨_, rfl⟩
        obtain ⟨db, hdb⟩ : ∃ d, dirN (rx - p0.v.ax) (ry - p0.v.ay) = d := ⟨_, rfl⟩
        obtain ⟨ra, hra⟩ : ∃ d, rt (sqD p0.v.ax p0.v.ay qx qy) = d := ⟨_, rfl⟩
        obtain ⟨rb, hrb⟩ : ∃ d, rt (sqD p0.v.ax p0.v.ay rx ry) = d := ⟨_, rfl⟩
        have da1 : 0 ≤ da := by rw [← hda]; exact (dirN_range _ _).1
        have da2 : da < 24 := by rw [← hda]; exact (dirN_range _ _).2
        have db1 : 0 ≤ db := by rw [← hdb]; exact (dirN_range _ _).1
        have db2 : db < 24 := by rw [← hdb]; exact (dirN_range _ _).2
        have HRA := Lib.hid (radii_eq p0 qx qy rx ry V5 w.heap.size HROW.out HW.out HOK.out HPq.out HPr.out hra hrb)
        have HDA : Hid (∀ W, RowKit.Below V5.heap.size V5 W → Calls Tryd.prog 13 #[.agg #[.string p0.v.name, .int .i64 p0.v.ax, .int .i64 p0.v.ay, .int .i64 p0.v.height, .int .i64 p0.v.jib, .int .i64 p0.v.back, .slice p0.r.a p0.r.n p0.r.cap], .agg #[.string ⟨#[97]⟩, .int .i64 1, .int .i64 qx, .int .i64 qy, .int .i64 rx, .int .i64 ry, .int .i64 0, .int .i64 1, .slice none 0 0]] W fun e w' => e = .returned (.tuple #[.int .i64 da, .int .i64 db, .int .i64 0]) ∧ RowKit.Below W.heap.size W w') := fun W hW => dirs_eq p0 qx qy rx ry W w.heap.size ((HROW.out.below hW).more hW.size) HW.out HOK.out HPq.out HPr.out (HQT.out.bel (HB5.out.trans (hW.mono HB5.out.size))) hda hdb
        have HR1 : Hid (∀ W, Calls Tryd.prog 14 #[.agg #[.int .i64 p0.v.ax, .int .i64 p0.v.ay], .agg #[.int .i64 qx, .int .i64 qy]] W fun e w' => e = .returned (.tuple #[.int .i64 ra, .int .i64 0]) ∧ RowKit.Below W.heap.size W w') := fun W => by rw [← hra]; exact specRadiusBetween_any _ _ _ _ W HAT.out HPq.out
        have HR2 : Hid (∀ W, Calls Tryd.prog 14 #[.agg #[.int .i64 p0.v.ax, .int .i64 p0.v.ay], .agg #[.int .i64 rx, .int .i64 ry]] W fun e w' => e = .returned (.tuple #[.int .i64 rb, .int .i64 0]) ∧ RowKit.Below W.heap.size W w') := fun W => by rw [← hrb]; exact specRadiusBetween_any _ _ _ _ W HAT.out HPr.out
        clear hS hP hQ hR hG hb hrow hx hmem hu4 hu5 hu45 KC KL hda hdb hra hrb hz4 hV5 hV4
        go_wp2_with fail
        rw [← hV5']
        clear hV5' ks c0 c1 c2 c3 c4 c5 c6 q0 q1 r0 r1 HFEq
        refine HRA.out.mono ?_
        rintro e w6 ⟨rfl, h6⟩
        have C6 := HC5.out.bel h6
        have L6 := HL5.out.bel h6
        have HQ6 := Lib.hid (HQ5.out.bel h6)
        have HR6 := Lib.hid (HR5.out.bel h6)
        have HBV := Lib.hid h6
        obtain ⟨e0, e1, e2, e3, e4, e5, e6⟩ := Crane.blk C6
        have l0 : w6.cell? ⟨wr.heap.size + 1, 0, none⟩ = some (.string ⟨#[97]⟩) := L6.cell 0
        have l1 : w6.cell? ⟨wr.heap.size + 1, 1, none⟩ = some (.int .i64 1) := L6.cell 1
        have l2 : w6.cell? ⟨wr.heap.size + 1, 2, none⟩ = some (.int .i64 qx) := L6.cell 2
        have l3 : w6.cell? ⟨wr.heap.size + 1, 3, none⟩ = some (.int .i64 qy) := L6.cell 3
        have l4 : w6.cell? ⟨wr.heap.size + 1, 4, none⟩ = some (.int .i64 rx) := L6.cell 4
        have l5 : w6.cell? ⟨wr.heap.size + 1, 5, none⟩ = some (.int .i64 ry) := L6.cell 5
        have l6 : w6.cell? ⟨wr.heap.size + 1, 6, none⟩ = some (.int .i64 0) := L6.cell 6
        have l7 : w6.cell? ⟨wr.heap.size + 1, 7, none⟩ = some (.int .i64 1) := L6.cell 7
        have l8 : w6.cell? ⟨wr.heap.size + 1, 8, none⟩ = some (.slice none 0 0) := L6.cell 8
        have HC6 := Lib.hid C6
        clear C6 L6 h6
        go_wp2_with fail
        refine (HDA.out w6 HBV.out).mono ?_
        rintro e w7 ⟨rfl, h7⟩
        clear e0 e1 e2 e3 e4 e5 e6 l0 l1 l2 l3 l4 l5 l6 l7 l8
        have C7 := HC6.out.bel h7
        have Q7 := HQ6.out.bel h7
        have R7 := Lib.hid (HR6.out.bel h7)
        have HB7 := Lib.hid ((HB5.out.trans (HBV.out.mono HB5.out.size)).trans (h7.mono (HB5.out.trans (HBV.out.mono HB5.out.size)).size))
        obtain ⟨e0, e1, e2, e3, e4, e5, e6⟩ := Crane.blk C7
        have q0 : w7.cell? ⟨gp + 1, 0, none⟩ = some (.int .i64 qx) := Q7.cell 0
        have q1 : w7.cell? ⟨gp + 1, 1, none⟩ = some (.int .i64 qy) := Q7.cell 1
        have HC7 := Lib.hid C7
        clear C7 Q7 h7 e0 e3 e4 e5 e6
        go_wp2_with fail
        refine (HR1.out w7).mono ?_
        rintro e w8 ⟨rfl, h8⟩
        clear e1 e2 q0 q1
        have C8 := HC7.out.bel h8
        have R8 := R7.out.bel h8
        have HB8 := Lib.hid (HB7.out.trans (h8.mono HB7.out.size))
        obtain ⟨e0, e1, e2, e3, e4, e5, e6⟩ := Crane.blk C8
        have r0 : w8.cell? ⟨gp + 1 + 1, 0, none⟩ = some (.int .i64 rx) := R8.cell 0
        have r1 : w8.cell? ⟨gp + 1 + 1, 1, none⟩ = some (.int .i64 ry) := R8.cell 1
        clear C8 R8 h8 e0 e3 e4 e5 e6
        go_wp2_with fail
        refine (HR2.out w8).mono ?_
        rintro e w9 ⟨rfl, h9⟩
        clear e1 e2 r0 r1
        go_wp2
        go_ret
        exact ⟨rfl, HB8.out.trans (h9.mono HB8.out.size)⟩
  · have HLE := Lib.hid hle
    have HLT := Lib.hid hlt
    have HLI := Lib.hid hLI
    have HANY : Hid (anyB f n = true) := anyB_some (j := I.toNat) (by rw [← hLI]; exact hL0) n (by omega)
    clear hle hlt hLI HCS
    have ks0 : w4.cell? ⟨gs, 0, none⟩ = some (.slice (some ⟨gb, go, none⟩) n c) := KS4.out.cell 0
    go_wp2
    clear ks0
    go_loopw [12, 13] (fun fv kv wr => ∃ k : Nat, k ≤ n ∧ kv = .int .i64 k ∧ fv = .bool (anyB f k) ∧ Blk wr gs 26 #[.slice (some ⟨gb, go, none⟩) n c] ∧ Blk wr gp 29 #[.int .i64 px, .int .i64 py] ∧ Blk wr (gp + 1) 29 #[.int .i64 qx, .int .i64 qy] ∧ Blk wr (gp + 1 + 1) 29 #[.int .i64 rx, .int .i64 ry] ∧ SiteG wr w.heap.size (some ⟨gb, go, none⟩) c ps ∧ RowKit.Below w.heap.size w wr) (fun _ kv _ => n - (intOf kv).toNat)
    case atStart => exact ⟨0, Nat.zero_le _, rfl, rfl, KS4.out, KP4.out, KQ4.out, KR4.out, HG4.out, HB4.out⟩
    case round =>
      obtain ⟨k, hk, rfl, rfl, hS, hP, hQ, hR, hG, hb⟩ := hrel
      have hsz := hb.size
      by_cases hlt : k < n
      · obtain ⟨b, off, p, eA, hx, _, hbl, hrow, c0, c1, c2, c3, c4, c5, c6⟩ := Crane.at (siteN hG HN.out).1 hlt
        obtain ⟨rfl, rfl⟩ : gb = b ∧ go = off := by injection eA with eA; injection eA with e1 e2; exact ⟨e1, e2⟩
        clear eA
        have hmem := List.mem_of_getElem? hx
        have HW := Lib.hid (hG.wf p hmem)
        have HOK := Lib.hid (siteOk_at hG.ok (i := k) (c := p.val) (by rw [List.getElem?_map, hx]; rfl))
        have hkn : (k : Int) < (n : Int) := by omega
        have hk0 : (0 : Int) ≤ (k : Int) := by omega
        obtain ⟨v, hv⟩ : ∃ v, f k = v := ⟨_, rfl⟩
        have HV := Lib.hid hv
        have HVP : Hid (ldP p.val px py = v) := (HFV.out k p hx).symm.trans hv
        have hv1 : -1 ≤ v := by rw [← hv]; exact HLO.out k
        have hv2 : v ≤ 50000 := by rw [← hv]; exact HHI.out k
        have HS := Lib.hid hS
        have HP := Lib.hid hP
        have HQ := Lib.hid hQ
        have HR := Lib.hid hR
        have HGG := Lib.hid hG
        have HBB := Lib.hid hb
        have HROW := Lib.hid hrow
        have s0 := cell_regrown ((hS.cell 0).trans rfl : wr.cell? ⟨gs, 0, none⟩ = some (.slice (some ⟨gb, go, none⟩) n c))
        have p0 := cell_regrown ((hP.cell 0).trans rfl : wr.cell? ⟨gp, 0, none⟩ = some (.int .i64 px))
        have p1 := cell_regrown ((hP.cell 1).trans rfl : wr.cell? ⟨gp, 1, none⟩ = some (.int .i64 py))
        have t0 := cell_regrown c0
        have t1 := cell_regrown c1
        have t2 := cell_regrown c2
        have t3 := cell_regrown c3
        have t4 := cell_regrown c4
        have t5 := cell_regrown c5
        have t6 := cell_regrown c6
        have ks : wr.cell? ⟨gs, 0, none⟩ = some (.slice (some ⟨gb, go, none⟩) n c) := hS.cell 0
        clear hS hP hQ hR hG hb hrow c0 c1 c2 c3 c4 c5 c6 hx hmem hv
        have HL : Hid (∀ (a b : Int), ((v < 0 ∧ a = 0 ∧ b = 3) ∨ (0 ≤ v ∧ a = v ∧ b = 0)) → ∀ d os, Calls Tryd.prog 11 #[.agg #[.string p.v.name, .int .i64 p.v.ax, .int .i64 p.v.ay, .int .i64 p.v.height, .int .i64 p.v.jib, .int .i64 p.v.back, .slice p.r.a p.r.n p.r.cap], .agg #[.int .i64 px, .int .i64 py]] (grow (redrawn wr d) os) fun e w' => e = .returned (.tuple #[.int .i64 a, .int .i64 b]) ∧ RowKit.Below (grow (redrawn wr d) os).heap.size (grow (redrawn wr d) os) w') := fun a b hab d os => by
          have hb9 := below_regrown wr d os
          exact specLoadAtPlace_any p px py _ w.heap.size ((HROW.out.below hb9).more hb9.size) HW.out HOK.out HPp.out (by rw [HVP.out]; exact hab)
        cases hab : anyB f k
        · have HAB := Lib.hid hab
          clear hab
          by_cases hneg : v < 0
          · have HE : Hid (anyB f (k + 1) = false) := by show _ = _; rw [anyB_no (by rw [HV.out]; exact hneg)]; exact HAB.out
            go_wp2
            clear ks
            refine wp_region_quiet_below (by kernel_rfl) (by kernel_rfl) ?_
            repeat (go_big_quiet_step (first | (go_at_call 11; exact Calls.regrown_of (HL.out (0) 3 (by omega) _ _))))
            refine wpQuiet_nil ?_
            intro _ hw9
            obtain ⟨⟨dq, osq⟩, hw9⟩ := hw9
            subst hw9
            have h5 := below_regrown wr dq osq
            dsimp only at h5 ⊢
            generalize grow (redrawn wr dq) osq = w5 at h5 ⊢
            clear s0 p0 p1 t0 t1 t2 t3 t4 t5 t6 HL
            have HS5 := Lib.hid (HS.out.bel h5)
            have HP5 := Lib.hid (HP.out.bel h5)
            have HQ5 := Lib.hid (HQ.out.bel h5)
            have HR5 := Lib.hid (HR.out.bel h5)
            have HG5 := Lib.hid (HGG.out.bel h5)
            have HB5 := Lib.hid (HBB.out.trans (h5.mono HBB.out.size))
            clear h5
            go_wp2
            go_roundw
            case rel => exact ⟨k + 1, by omega, by go_num, by rw [HE.out], HS5.out, HP5.out, HQ5.out, HR5.out, HG5.out, HB5.out⟩
            case measure => simp [intOf]; omega
          · have HE : Hid (anyB f (k + 1) = true) := anyB_yes (by rw [HV.out]; omega)
            have hvL : v ≤ L := by rw [← HV.out]; exact HLE.out k hlt
            have HB1 : Hid (decide (L < v) = false) := decide_eq_false (by omega)
            go_wp2
            clear ks
            refine wp_region_quiet_below (by kernel_rfl) (by kernel_rfl) ?_
            repeat (go_big_quiet_step (first | (go_at_call 11; exact Calls.regrown_of (HL.out (v) 0 (by omega) _ _))))
            refine wpQuiet_nil ?_
            intro _ hw9
            obtain ⟨⟨dq, osq⟩, hw9⟩ := hw9
            subst hw9
            have h5 := below_regrown wr dq osq
            dsimp only at h5 ⊢
            generalize grow (redrawn wr dq) osq = w5 at h5 ⊢
            clear s0 p0 p1 t0 t1 t2 t3 t4 t5 t6 HL
            have HS5 := Lib.hid (HS.out.bel h5)
            have HP5 := Lib.hid (HP.out.bel h5)
            have HQ5 := Lib.hid (HQ.out.bel h5)
            have HR5 := Lib.hid (HR.out.bel h5)
            have HG5 := Lib.hid (HGG.out.bel h5)
            have HB5 := Lib.hid (HBB.out.trans (h5.mono HBB.out.size))
            clear h5
            rcases Int.lt_trichotomy (k : Int) I with hki | hki | hki
            · have hvl : v < L := by rw [← HV.out]; exact HLT.out k hki
              have hne : decide (v = L) = false := decide_eq_false (by omega)
              have hkl : decide ((k : Int) < I) = true := decide_eq_true hki
              have hke : decide ((k : Int) = I) = false := decide_eq_false (by omega)
              have hb1 := HB1.out
              go_wp2
              go_roundw
              case rel => exact ⟨k + 1, by omega, by go_num, by rw [HE.out], HS5.out, HP5.out, HQ5.out, HR5.out, HG5.out, HB5.out⟩
              case measure => simp [intOf]; omega
            · have hvl : v = L := by rw [← HV.out, HLI.out, ← hki, Int.toNat_natCast]
              subst hki
              subst hvl
              have hb1 := HB1.out
              go_wp2
              go_roundw
              case rel => exact ⟨k + 1, by omega, by go_num, by rw [HE.out], HS5.out, HP5.out, HQ5.out, HR5.out, HG5.out, HB5.out⟩
              case measure => simp [intOf]; omega
            · have hkl : decide ((k : Int) < I) = false := decide_eq_false (by omega)
              have hke : decide ((k : Int) = I) = false := decide_eq_false (by omega)
              have hb1 := HB1.out
              go_wp2
              go_roundw
              case rel => exact ⟨k + 1, by omega, by go_num, by rw [HE.out], HS5.out, HP5.out, HQ5.out, HR5.out, HG5.out, HB5.out⟩
              case measure => simp [intOf]; omega
        · have HAB := Lib.hid hab
          clear hab
          by_cases hneg : v < 0
          · have HE : Hid (anyB f (k + 1) = true) := by show _ = _; rw [anyB_no (by rw [HV.out]; exact hneg)]; exact HAB.out
            go_wp2
            clear ks
            refine wp_region_quiet_below (by kernel_rfl) (by kernel_rfl) ?_
            repeat (go_big_quiet_step (first | (go_at_call 11; exact Calls.regrown_of (HL.out (0) 3 (by omega) _ _))))
            refine wpQuiet_nil ?_
            intro _ hw9
            obtain ⟨⟨dq, osq⟩, hw9⟩ := hw9
            subst hw9
            have h5 := below_regrown wr dq osq
            dsimp only at h5 ⊢
            generalize grow (redrawn wr dq) osq = w5 at h5 ⊢
            clear s0 p0 p1 t0 t1 t2 t3 t4 t5 t6 HL
            have HS5 := Lib.hid (HS.out.bel h5)
            have HP5 := Lib.hid (HP.out.bel h5)
            have HQ5 := Lib.hid (HQ.out.bel h5)
            have HR5 := Lib.hid (HR.out.bel h5)
            have HG5 := Lib.hid (HGG.out.bel h5)
            have HB5 := Lib.hid (HBB.out.trans (h5.mono HBB.out.size))
            clear h5
            go_wp2
            go_roundw
            case rel => exact ⟨k + 1, by omega, by go_num, by rw [HE.out], HS5.out, HP5.out, HQ5.out, HR5.out, HG5.out, HB5.out⟩
            case measure => simp [intOf]; omega
          · have HE : Hid (anyB f (k + 1) = true) := anyB_yes (by rw [HV.out]; omega)
            have hvL : v ≤ L := by rw [← HV.out]; exact HLE.out k hlt
            have HB1 : Hid (decide (L < v) = false) := decide_eq_false (by omega)
            go_wp2
            clear ks
            refine wp_region_quiet_below (by kernel_rfl) (by kernel_rfl) ?_
            repeat (go_big_quiet_step (first | (go_at_call 11; exact Calls.regrown_of (HL.out (v) 0 (by omega) _ _))))
            refine wpQuiet_nil ?_
            intro _ hw9
            obtain ⟨⟨dq, osq⟩, hw9⟩ := hw9
            subst hw9
            have h5 := below_regrown wr dq osq
            dsimp only at h5 ⊢
            generalize grow (redrawn wr dq) osq = w5 at h5 ⊢
            clear s0 p0 p1 t0 t1 t2 t3 t4 t5 t6 HL
            have HS5 := Lib.hid (HS.out.bel h5)
            have HP5 := Lib.hid (HP.out.bel h5)
            have HQ5 := Lib.hid (HQ.out.bel h5)
            have HR5 := Lib.hid (HR.out.bel h5)
            have HG5 := Lib.hid (HGG.out.bel h5)
            have HB5 := Lib.hid (HBB.out.trans (h5.mono HBB.out.size))
            clear h5
            rcases Int.lt_trichotomy (k : Int) I with hki | hki | hki
            · have hvl : v < L := by rw [← HV.out]; exact HLT.out k hki
              have hne : decide (v = L) = false := decide_eq_false (by omega)
              have hkl : decide ((k : Int) < I) = true := decide_eq_true hki
              have hke : decide ((k : Int) = I) = false := decide_eq_false (by omega)
              have hb1 := HB1.out
              go_wp2
              go_roundw
              case rel => exact ⟨k + 1, by omega, by go_num, by rw [HE.out], HS5.out, HP5.out, HQ5.out, HR5.out, HG5.out, HB5.out⟩
              case measure => simp [intOf]; omega
            · have hvl : v = L := by rw [← HV.out, HLI.out, ← hki, Int.toNat_natCast]
              subst hki
              subst hvl
              have hb1 := HB1.out
              go_wp2
              go_roundw
              case rel => exact ⟨k + 1, by omega, by go_num, by rw [HE.out], HS5.out, HP5.out, HQ5.out, HR5.out, HG5.out, HB5.out⟩
              case measure => simp [intOf]; omega
            · have hkl : decide ((k : Int) < I) = false := decide_eq_false (by omega)
              have hke : decide ((k : Int) = I) = false := decide_eq_false (by omega)
              have hb1 := HB1.out
              go_wp2
              go_roundw
              case rel => exact ⟨k + 1, by omega, by go_num, by rw [HE.out], HS5.out, HP5.out, HQ5.out, HR5.out, HG5.out, HB5.out⟩
              case measure => simp [intOf]; omega
      · obtain rfl : k = n := by omega
        have ks : wr.cell? ⟨gs, 0, none⟩ = some (.slice (some ⟨gb, go, none⟩) k c) := hS.cell 0
        have HFE : Hid (anyB f k = true) := HANY.out
        have hz0 := siteN hG HN.out
        obtain ⟨b, off, p0, eA, hx, _, hbl, hrow, c0, c1, c2, c3, c4, c5, c6⟩ := Crane.at hz0.1 (i := 0) (by omega)
        obtain ⟨rfl, rfl⟩ : gb = b ∧ go = off := by injection eA with eA; injection eA with e1 e2; exact ⟨e1, e2⟩
        simp only [Nat.zero_mul, Nat.add_zero] at c0 c1 c2 c3 c4 c5 c6
        clear eA hz0
        have hmem := List.mem_of_getElem? hx
        have HW := Lib.hid (hG.wf p0 hmem)
        have HOK := Lib.hid (siteOk_at hG.ok (i := 0) (c := p0.val) (by rw [List.getElem?_map, hx]; rfl))
        have HAT : Hid (Plc p0.v.ax p0.v.ay) := (craneOk_parts HOK.out).at_
        obtain ⟨V4, hV4⟩ : ∃ V : World, V = wr.alloc (.cells #[.string p0.v.name, .int .i64 p0.v.ax, .int .i64 p0.v.ay, .int .i64 p0.v.height, .int .i64 p0.v.jib, .int .i64 p0.v.back, .slice p0.r.a p0.r.n p0.r.cap] 38) := ⟨_, rfl⟩
        obtain ⟨V5, hV5⟩ : ∃ V : World, V = V4.alloc (.cells #[.string ⟨#[97]⟩, .int .i64 1, .int .i64 qx, .int .i64 qy, .int .i64 rx, .int .i64 ry, .int .i64 0, .int .i64 1, .slice none 0 0] 41) := ⟨_, rfl⟩
        have hu4 : RowKit.Below wr.heap.size wr V4 := by rw [hV4]; exact (Below.refl _ _).alloc (Nat.le_refl _) _
        have hu5 : RowKit.Below V4.heap.size V4 V5 := by rw [hV5]; exact (Below.refl _ _).alloc (Nat.le_refl _) _
        have hu45 := hu4.trans (hu5.mono hu4.size)
        have KC := ((by rw [hV4]; exact Blk.new _ _ _ : Blk V4 wr.heap.size 38 #[.string p0.v.name, .int .i64 p0.v.ax, .int .i64 p0.v.ay, .int .i64 p0.v.height, .int .i64 p0.v.jib, .int .i64 p0.v.back, .slice p0.r.a p0.r.n p0.r.cap])).bel hu5
        have KL : Blk V5 V4.heap.size 41 #[.string ⟨#[97]⟩, .int .i64 1, .int .i64 qx, .int .i64 qy, .int .i64 rx, .int .i64 ry, .int .i64 0, .int .i64 1, .slice none 0 0] := by rw [hV5]; exact Blk.new _ _ _
        have hz4 : V4.heap.size = wr.heap.size + 1 := by rw [hV4]; simp
        rw [hz4] at KL
        have q0 : wr.cell? ⟨gp + 1, 0, none⟩ = some (.int .i64 qx) := hQ.cell 0
        have q1 : wr.cell? ⟨gp + 1, 1, none⟩ = some (.int .i64 qy) := hQ.cell 1
        have r0 : wr.cell? ⟨gp + 1 + 1, 0, none⟩ = some (.int .i64 rx) := hR.cell 0
        have r1 : wr.cell? ⟨gp + 1 + 1, 1, none⟩ = some (.int .i64 ry) := hR.cell 1
        have lq := hQ.lt
        have lr := hR.lt
        have HQ5 := Lib.hid (hQ.bel hu45)
        have HR5 := Lib.hid (hR.bel hu45)
        have HROW := Lib.hid ((hrow.below hu45).more hu45.size)
        have HB5 := Lib.hid (hb.trans (hu45.mono hb.size))
        have HC5 := Lib.hid KC
        have HL5 := Lib.hid KL
        have hV5' := hV5
        rw [hV4] at hV5'
        have HFEq := HFE.out
        obtain ⟨da, hda⟩ : ∃ d, dirN (qx - p0.v.ax) (qy - p0.v.ay) = d := ⟨_, rfl⟩
        obtain ⟨db, hdb⟩ : ∃ d, dirN (rx - p0.v.ax) (ry - p0.v.ay) = d := ⟨_, rfl⟩
        obtain ⟨ra, hra⟩ : ∃ d, rt (sqD p0.v.ax p0.v.ay qx qy) = d := ⟨_, rfl⟩
        obtain ⟨rb, hrb⟩ : ∃ d, rt (sqD p0.v.ax p0.v.ay rx ry) = d := ⟨_, rfl⟩
        have da1 : 0 ≤ da := by rw [← hda]; exact (dirN_range _ _).1
        have da2 : da < 24 := by rw [← hda]; exact (dirN_range _ _).2
        have db1 : 0 ≤ db := by rw [← hdb]; exact (dirN_range _ _).1
        have db2 : db < 24 := by rw [← hdb]; exact (dirN_range _ _).2
        have HRA := Lib.hid (radii_eq p0 qx qy rx ry V5 w.heap.size HROW.out HW.out HOK.out HPq.out HPr.out hra hrb)
        have HDA : Hid (∀ W, RowKit.Below V5.heap.size V5 W → Calls Tryd.prog 13 #[.agg #[.string p0.v.name, .int .i64 p0.v.ax, .int .i64 p0.v.ay, .int .i64 p0.v.height, .int .i64 p0.v.jib, .int .i64 p0.v.back, .slice p0.r.a p0.r.n p0.r.cap], .agg #[.string ⟨#[97]⟩, .int .i64 1, .int .i64 qx, .int .i64 qy, .int .i64 rx, .int .i64 ry, .int .i64 0, .int .i64 1, .slice none 0 0]] W fun e w' => e = .returned (.tuple #[.int .i64 da, .int .i64 db, .int .i64 0]) ∧ RowKit.Below W.heap.size W w') := fun W hW => dirs_eq p0 qx qy rx ry W w.heap.size ((HROW.out.below hW).more hW.size) HW.out HOK.out HPq.out HPr.out (HQT.out.bel (HB5.out.trans (hW.mono HB5.out.size))) hda hdb
        have HR1 : Hid (∀ W, Calls Tryd.prog 14 #[.agg #[.int .i64 p0.v.ax, .int .i64 p0.v.ay], .agg #[.int .i64 qx, .int .i64 qy]] W fun e w' => e = .returned (.tuple #[.int .i64 ra, .int .i64 0]) ∧ RowKit.Below W.heap.size W w') := fun W => by rw [← hra]; exact specRadiusBetween_any _ _ _ _ W HAT.out HPq.out
        have HR2 : Hid (∀ W, Calls Tryd.prog 14 #[.agg #[.int .i64 p0.v.ax, .int .i64 p0.v.ay], .agg #[.int .i64 rx, .int .i64 ry]] W fun e w' => e = .returned (.tuple #[.int .i64 rb, .int .i64 0]) ∧ RowKit.Below W.heap.size W w') := fun W => by rw [← hrb]; exact specRadiusBetween_any _ _ _ _ W HAT.out HPr.out
        clear hS hP hQ hR hG hb hrow hx hmem hu4 hu5 hu45 KC KL hda hdb hra hrb hz4 hV5 hV4
        go_wp2_with fail
        rw [← hV5']
        clear hV5' ks c0 c1 c2 c3 c4 c5 c6 q0 q1 r0 r1 HFEq
        refine HRA.out.mono ?_
        rintro e w6 ⟨rfl, h6⟩
        have C6 := HC5.out.bel h6
        have L6 := HL5.out.bel h6
        have HQ6 := Lib.hid (HQ5.out.bel h6)
        have HR6 := Lib.hid (HR5.out.bel h6)
        have HBV := Lib.hid h6
        obtain ⟨e0, e1, e2, e3, e4, e5, e6⟩ := Crane.blk C6
        have l0 : w6.cell? ⟨wr.heap.size + 1, 0, none⟩ = some (.string ⟨#[97]⟩) := L6.cell 0
        have l1 : w6.cell? ⟨wr.heap.size + 1, 1, none⟩ = some (.int .i64 1) := L6.cell 1
        have l2 : w6.cell? ⟨wr.heap.size + 1, 2, none⟩ = some (.int .i64 qx) := L6.cell 2
        have l3 : w6.cell? ⟨wr.heap.size + 1, 3, none⟩ = some (.int .i64 qy) := L6.cell 3
        have l4 : w6.cell? ⟨wr.heap.size + 1, 4, none⟩ = some (.int .i64 rx) := L6.cell 4
        have l5 : w6.cell? ⟨wr.heap.size + 1, 5, none⟩ = some (.int .i64 ry) := L6.cell 5
        have l6 : w6.cell? ⟨wr.heap.size + 1, 6, none⟩ = some (.int .i64 0) := L6.cell 6
        have l7 : w6.cell? ⟨wr.heap.size + 1, 7, none⟩ = some (.int .i64 1) := L6.cell 7
        have l8 : w6.cell? ⟨wr.heap.size + 1, 8, none⟩ = some (.slice none 0 0) := L6.cell 8
        have HC6 := Lib.hid C6
        clear C6 L6 h6
        go_wp2_with fail
        refine (HDA.out w6 HBV.out).mono ?_
        rintro e w7 ⟨rfl, h7⟩
        clear e0 e1 e2 e3 e4 e5 e6 l0 l1 l2 l3 l4 l5 l6 l7 l8
        have C7 := HC6.out.bel h7
        have Q7 := HQ6.out.bel h7
        have R7 := Lib.hid (HR6.out.bel h7)
        have HB7 := Lib.hid ((HB5.out.trans (HBV.out.mono HB5.out.size)).trans (h7.mono (HB5.out.trans (HBV.out.mono HB5.out.size)).size))
        obtain ⟨e0, e1, e2, e3, e4, e5, e6⟩ := Crane.blk C7
        have q0 : w7.cell? ⟨gp + 1, 0, none⟩ = some (.int .i64 qx) := Q7.cell 0
        have q1 : w7.cell? ⟨gp + 1, 1, none⟩ = some (.int .i64 qy) := Q7.cell 1
        have HC7 := Lib.hid C7
        clear C7 Q7 h7 e0 e3 e4 e5 e6
        go_wp2_with fail
        refine (HR1.out w7).mono ?_
        rintro e w8 ⟨rfl, h8⟩
        clear e1 e2 q0 q1
        have C8 := HC7.out.bel h8
        have R8 := R7.out.bel h8
        have HB8 := Lib.hid (HB7.out.trans (h8.mono HB7.out.size))
        obtain ⟨e0, e1, e2, e3, e4, e5, e6⟩ := Crane.blk C8
        have r0 : w8.cell? ⟨gp + 1 + 1, 0, none⟩ = some (.int .i64 rx) := R8.cell 0
        have r1 : w8.cell? ⟨gp + 1 + 1, 1, none⟩ = some (.int .i64 ry) := R8.cell 1
        clear C8 R8 h8 e0 e3 e4 e5 e6
        go_wp2_with fail
        refine (HR2.out w8).mono ?_
        rintro e w9 ⟨rfl, h9⟩
        clear e1 e2 r0 r1
        go_wp2
        go_ret
        exact ⟨rfl, HB8.out.trans (h9.mono HB8.out.size)⟩
end Go.Proofs.YtkegncanmfmmmaaDoor.lawHeaviest
