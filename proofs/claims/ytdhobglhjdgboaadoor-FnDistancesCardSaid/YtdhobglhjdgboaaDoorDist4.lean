/- Distances: the program's segmentSquare. -/
import Derived.Test.YtdhobglhjdgboaaDoorDist3
import Derived.Test.YtdhobglhjdgboaaDoorQuietTail3
namespace Go.Proofs.YtdhobglhjdgboaaDoor
open Go.RowKit Go.Sort
set_option linter.unusedVariables false

/-- what pointSquare hands back at these numbers -/
def PsR (ax ay bx by_ px py : Int) (n d : Nat) : Prop := (⟨ax, ay, bx, by_⟩ : Seg).ok ∧ (⟨px, py⟩ : Pt).ok ∧ psF ⟨ax, ay, bx, by_⟩ ⟨px, py⟩ = ⟨(n : Int), (d : Int)⟩
theorem psR_any {ax ay bx by_ px py : Int} {n d : Nat} (h : PsR ax ay bx by_ px py n d) (w : World) :
    Calls Tryd.prog 109 #[.agg #[.int .i64 ax, .int .i64 ay, .int .i64 bx, .int .i64 by_], .agg #[.int .i64 px, .int .i64 py]] w fun e w' => e = .returned (.agg #[.int .i64 (n : Int), .int .i64 (d : Int)]) ∧ RowKit.Below w.heap.size w w' := by
  have := pointSquareS_any ⟨ax, ay, bx, by_⟩ ⟨px, py⟩ w h.1 h.2.1
  rw [h.2.2] at this
  exact this
def smallN (n d : Nat) : Prop := n ≤ 1000000000000000000 ∧ 1 ≤ d ∧ d ≤ 1000000000
def ltN (n d bn bd : Nat) : Prop := n * bd < bn * d
theorem cmpN_any (n d bn bd : Nat) (h1 : smallN n d) (h2 : smallN bn bd) (w : World) : ∃ X : Int, (ltN n d bn bd → X < 0) ∧ (¬ ltN n d bn bd → ¬ X < 0) ∧
    Calls Tryd.prog 112 #[.agg #[.int .i64 n, .int .i64 d], .agg #[.int .i64 bn, .int .i64 bd]] w fun e w' => e = .returned (.int .i64 X) ∧ RowKit.Below w.heap.size w w' := by
  obtain ⟨a1, a2, a3⟩ := h1
  obtain ⟨b1, b2, b3⟩ := h2
  refine ⟨_, ?_, ?_, compare_any n d bn bd (by omega) (by omega) (by omega) (by omega) w⟩
  · intro h
    unfold ltN at h
    rcases sgn_cases ((n * bd : Nat) : Int) ((bn * d : Nat) : Int) with ⟨_, e⟩ | ⟨h3, _, e⟩ | ⟨h3, _, e⟩ <;> omega
  · intro h
    unfold ltN at h
    rcases sgn_cases ((n * bd : Nat) : Int) ((bn * d : Nat) : Int) with ⟨h3, e⟩ | ⟨h3, _, e⟩ | ⟨h3, _, e⟩ <;> omega
theorem mnF_nat (bn bd n d : Nat) : (ltN n d bn bd → mnF ⟨bn, bd⟩ ⟨n, d⟩ = ⟨n, d⟩) ∧ (¬ ltN n d bn bd → mnF ⟨bn, bd⟩ ⟨n, d⟩ = ⟨bn, bd⟩) := by
  unfold mnF ltN
  have e : (((n : Int) * (bd : Int) < (bn : Int) * (d : Int))) ↔ n * bd < bn * d := by
    rw [← Int.natCast_mul, ← Int.natCast_mul]; omega
  constructor
  · intro h; rw [if_pos (e.2 h)]
  · intro h; rw [if_neg (fun h9 => h (e.1 h9))]

def frN (x : Nat × Nat) : Fraction := ⟨(x.1 : Int), (x.2 : Int)⟩
def bestTo (b0 : Nat × Nat) (fs : Nat → Nat × Nat) : Nat → Nat × Nat
  | 0 => b0
  | k + 1 => if (fs k).1 * (bestTo b0 fs k).2 < (bestTo b0 fs k).1 * (fs k).2 then fs k else bestTo b0 fs k
theorem bestTo_fr (b0 : Nat × Nat) (fs : Nat → Nat × Nat) (k : Nat) : frN (bestTo b0 fs (k + 1)) = mnF (frN (bestTo b0 fs k)) (frN (fs k)) := by
  obtain ⟨h1, h2⟩ := mnF_nat (bestTo b0 fs k).1 (bestTo b0 fs k).2 (fs k).1 (fs k).2
  unfold frN
  rw [bestTo]
  split
  · rename_i h; rw [h1 h]
  · rename_i h; rw [h2 h]
theorem bestTo_small {b0 : Nat × Nat} {fs : Nat → Nat × Nat} (h0 : smallN b0.1 b0.2) (hs : ∀ k, smallN (fs k).1 (fs k).2) : ∀ k, smallN (bestTo b0 fs k).1 (bestTo b0 fs k).2
  | 0 => h0
  | k + 1 => by
    rw [bestTo]
    split
    · exact hs k
    · exact bestTo_small h0 hs k
def fs3 (x y z : Nat × Nat) : Nat → Nat × Nat
  | 0 => x
  | 1 => y
  | _ => z

set_option maxRecDepth 100000 in
set_option maxHeartbeats 2000000 in
theorem segmentSquareF_any (a b : Seg) (w : World) (ha : a.ok) (hb : b.ok) :
    Calls Tryd.prog 107 #[.agg #[.int .i64 a.ax, .int .i64 a.ay, .int .i64 a.bx, .int .i64 a.by_], .agg #[.int .i64 b.ax, .int .i64 b.ay, .int .i64 b.bx, .int .i64 b.by_]] w fun e w' => e = .returned (.agg #[.int .i64 (ssF a b).num, .int .i64 (ssF a b).den]) ∧ RowKit.Below w.heap.size w w' := by
  obtain ⟨W, hW⟩ : ∃ W : World, W = ((w.alloc (.cells #[.int .i64 a.ax, .int .i64 a.ay, .int .i64 a.bx, .int .i64 a.by_] 72)).alloc (.cells #[.int .i64 b.ax, .int .i64 b.ay, .int .i64 b.bx, .int .i64 b.by_] 72)).alloc (.cells #[.int .i64 0, .int .i64 0] 76) := ⟨_, rfl⟩
  obtain ⟨S, T, F, B⟩ := box_ssf w a b hW
  have HS := Lib.hid S
  have HT := Lib.hid T
  have HF := Lib.hid F
  have HB := Lib.hid B
  clear B F
  obtain ⟨c0, c1, c2, c3⟩ := S.cells
  obtain ⟨d0, d1, d2, d3⟩ := T.cells
  clear S T
  cases hm : meetB a b
  case true =>
    have HE : Hid (ssF a b = ⟨0, 1⟩) := by show _ = _; unfold ssF; rw [hm]; rfl
    go_enter Tryd.func107, Tryd.ntmps107
    go_wp2_with fail
    rw [← hW]
    refine (meet_any a b W ha hb hm).mono ?_
    rintro e w1 ⟨rfl, hb1⟩
    have F1 := HF.out.bel hb1
    have HB1 := Lib.hid (HB.out.trans (hb1.mono HB.out.size))
    obtain ⟨c0', c1'⟩ := F1.cells
    obtain ⟨f0, f1⟩ := F1.fro
    clear hb1 F1 hW c0 c1 c2 c3 d0 d1 d2 d3
    go_wp2
    exact bodyPost_ret (v := .agg #[.int .i64 0, .int .i64 1]) (by simp [results, Tryd.results107, go_sem, c0', c1']) rfl ⟨by rw [HE.out], (HB1.out.setCell (p := ⟨w.heap.size + 1 + 1, 0, none⟩) (by show _ ≤ w.heap.size + 1 + 1; omega) _).setCell (p := ⟨w.heap.size + 1 + 1, 1, none⟩) (by show _ ≤ w.heap.size + 1 + 1; omega) _⟩
  case false =>
    obtain ⟨p1, q1, e1, x1, y1, z1⟩ := fracOk_nat (psF_ok ha (ptA_ok hb))
    obtain ⟨p2, q2, e2, x2, y2, z2⟩ := fracOk_nat (psF_ok ha (ptB_ok hb))
    obtain ⟨p3, q3, e3, x3, y3, z3⟩ := fracOk_nat (psF_ok hb (ptA_ok ha))
    obtain ⟨p4, q4, e4, x4, y4, z4⟩ := fracOk_nat (psF_ok hb (ptB_ok ha))
    have HE : Hid (ssF a b = mnF (mnF (mnF ⟨p1, q1⟩ ⟨p2, q2⟩) ⟨p3, q3⟩) ⟨p4, q4⟩) := by show _ = _; unfold ssF; rw [hm, ← e1, ← e2, ← e3, ← e4]; rfl
    have r1 : PsR a.ax a.ay a.bx a.by_ b.ax b.ay p1 q1 := ⟨ha, ptA_ok hb, e1⟩
    have r2 : PsR a.ax a.ay a.bx a.by_ b.bx b.by_ p2 q2 := ⟨ha, ptB_ok hb, e2⟩
    have r3 : PsR b.ax b.ay b.bx b.by_ a.ax a.ay p3 q3 := ⟨hb, ptA_ok ha, e3⟩
    have r4 : PsR b.ax b.ay b.bx b.by_ a.bx a.by_ p4 q4 := ⟨hb, ptB_ok ha, e4⟩
    have S1 : smallN p1 q1 := ⟨x1, y1, z1⟩
    have S2 : smallN p2 q2 := ⟨x2, y2, z2⟩
    have S3 : smallN p3 q3 := ⟨x3, y3, z3⟩
    have S4 : smallN p4 q4 := ⟨x4, y4, z4⟩
    clear e1 e2 e3 e4 x1 x2 x3 x4 y1 y2 y3 y4 z1 z2 z3 z4
    go_enter Tryd.func107, Tryd.ntmps107
    go_wp2_with fail
    rw [← hW]
    clear hW
    refine (meet_any a b W ha hb hm).mono ?_
    rintro e w1 ⟨rfl, hb1⟩
    clear c0 c1 c2 c3 d0 d1 d2 d3 hm
    have HS1 := Lib.hid (HS.out.bel hb1)
    have HT1 := Lib.hid (HT.out.bel hb1)
    have HF1 := Lib.hid (HF.out.bel hb1)
    have HB1 := Lib.hid (HB.out.trans (hb1.mono HB.out.size))
    clear hb1
    obtain ⟨c0, c1, c2, c3⟩ := HS1.out.cells
    obtain ⟨d0, d1, d2, d3⟩ := HT1.out.cells
    go_wp2_with fail
    refine (psR_any r1 _).mono ?_
    rintro e w2 ⟨rfl, hb2⟩
    clear c0 c1 c2 c3 d0 d1 d2 d3
    have HS2 := Lib.hid (HS1.out.bel hb2)
    have HT2 := Lib.hid (HT1.out.bel hb2)
    have HF2 := Lib.hid (HF1.out.bel hb2)
    have HB2 := Lib.hid (HB1.out.trans (hb2.mono HB1.out.size))
    clear hb2
    obtain ⟨V, hV⟩ : ∃ V : World, V = w2.alloc (.cells #[.int .i64 (p1 : Int), .int .i64 (q1 : Int)] 76) := ⟨_, rfl⟩
    have bV : RowKit.Below w2.heap.size w2 V := by rw [hV]; exact (Below.refl _ _).alloc (Nat.le_refl _) _
    have FB : FrB V w2.heap.size ⟨p1, q1⟩ := by rw [hV]; exact Blk.new _ _ _
    have HS3 := Lib.hid (HS2.out.bel bV)
    have HT3 := Lib.hid (HT2.out.bel bV)
    have HF3 := Lib.hid (HF2.out.bel bV)
    have HB3 := Lib.hid (HB2.out.trans (bV.mono HB2.out.size))
    have HFB := Lib.hid FB
    clear bV FB
    obtain ⟨c0, c1, c2, c3⟩ := HS3.out.cells
    obtain ⟨d0, d1, d2, d3⟩ := HT3.out.cells
    have t0 := cell_regrown c0
    have t1 := cell_regrown c1
    have t2 := cell_regrown c2
    have t3 := cell_regrown c3
    have u0 := cell_regrown d0
    have u1 := cell_regrown d1
    have u2 := cell_regrown d2
    have u3 := cell_regrown d3
    clear c0 c1 c2 c3 d0 d1 d2 d3
    go_wp2
    rw [← hV]
    clear hV
    refine wp_region_below_last 12 (by kernel_rfl) (by kernel_rfl) rfl _ rfl rfl (fun _ _ _ h => h) ?_
    simp only [List.length_cons, List.length_nil, Nat.reduceAdd, Nat.reduceSub, List.take_succ_cons, List.take_zero, List.drop_succ_cons, List.drop_zero]
    conv => enter [6]; simp [Act.put, Act.eval]
    repeat (go_big_quiet_step (first | (go_at_call 109; exact Calls.regrown_of (psR_any (by assumption) _))))
    refine wpQuiet_nil ?_
    intro _ hw9
    obtain ⟨⟨dq, osq⟩, hw9⟩ := hw9
    subst hw9
    have hbU := below_regrown V dq osq
    dsimp only at hbU ⊢
    generalize grow (redrawn V dq) osq = U at hbU ⊢
    have HS4 := Lib.hid (HS3.out.bel hbU)
    have HF4 := Lib.hid (HF3.out.bel hbU)
    have HB4 := Lib.hid (HB3.out.trans (hbU.mono HB3.out.size))
    have HFB4 := Lib.hid (HFB.out.bel hbU)
    clear hbU t0 t1 t2 t3 u0 u1 u2 u3
    obtain ⟨X, hX⟩ : ∃ X : World, X = U.alloc (.cells #[.int .i64 (p2 : Int), .int .i64 (q2 : Int), .int .i64 (p3 : Int), .int .i64 (q3 : Int), .int .i64 (p4 : Int), .int .i64 (q4 : Int)] 76) := ⟨_, rfl⟩
    have bX : RowKit.Below U.heap.size U X := by rw [hX]; exact (Below.refl _ _).alloc (Nat.le_refl _) _
    have LX : Blk X U.heap.size 76 #[.int .i64 (p2 : Int), .int .i64 (q2 : Int), .int .i64 (p3 : Int), .int .i64 (q3 : Int), .int .i64 (p4 : Int), .int .i64 (q4 : Int)] := by rw [hX]; exact Blk.new _ _ _
    have HLX := Lib.hid LX
    have HF5 := Lib.hid (HF4.out.bel bX)
    have HB5 := Lib.hid (HB4.out.trans (bX.mono HB4.out.size))
    have HFB5 := Lib.hid (HFB4.out.bel bX)
    have hsz1 := HB1.out.size
    have hsz2 := HB2.out.size
    have hw2 : w.heap.size + 1 + 1 < w2.heap.size := HF2.out.lt
    have hU : w2.heap.size < U.heap.size := HFB4.out.lt
    clear bX LX
    go_wp2_with fail
    rw [← hX]
    clear hX
    obtain ⟨fs, hfs⟩ : ∃ fs, fs = fs3 (p2, q2) (p3, q3) (p4, q4) := ⟨_, rfl⟩
    have HFS := Lib.hid hfs
    have HSM : Hid (∀ k, smallN (bestTo (p1, q1) fs k).1 (bestTo (p1, q1) fs k).2) := bestTo_small S1 (fun k => by rw [hfs]; match k with | 0 => exact S2 | 1 => exact S3 | _ + 2 => exact S4)
    have HSF : Hid (∀ k, smallN (fs k).1 (fs k).2) := fun k => by rw [hfs]; match k with | 0 => exact S2 | 1 => exact S3 | _ + 2 => exact S4
    have HCL : Hid (∀ (wr : World), Blk wr U.heap.size 76 #[.int .i64 (p2 : Int), .int .i64 (q2 : Int), .int .i64 (p3 : Int), .int .i64 (q3 : Int), .int .i64 (p4 : Int), .int .i64 (q4 : Int)] → ∀ k, k < 3 → wr.cell? ⟨U.heap.size, k * 2, none⟩ = some (.int .i64 ((fs k).1 : Int)) ∧ wr.cell? ⟨U.heap.size, k * 2 + 1, none⟩ = some (.int .i64 ((fs k).2 : Int))) := fun wr hl k hk => by
      rw [hfs]
      match k, hk with
      | 0, _ => exact ⟨hl.cell 0, hl.cell 1⟩
      | 1, _ => exact ⟨hl.cell 2, hl.cell 3⟩
      | 2, _ => exact ⟨hl.cell 4, hl.cell 5⟩
    clear hfs S1 S2 S3 S4 r1 r2 r3 r4
    go_loopw [30] (fun i wr => ∃ k : Nat, k ≤ 3 ∧ i = .int .i64 k ∧ FrB wr w2.heap.size (frN (bestTo (p1, q1) fs k)) ∧ FrB wr (w.heap.size + 1 + 1) ⟨0, 0⟩ ∧ Blk wr U.heap.size 76 #[.int .i64 (p2 : Int), .int .i64 (q2 : Int), .int .i64 (p3 : Int), .int .i64 (q3 : Int), .int .i64 (p4 : Int), .int .i64 (q4 : Int)] ∧ RowKit.Below w.heap.size w wr) (fun i _ => 3 - (intOf i).toNat)
    case atStart => exact ⟨0, by omega, rfl, HFB5.out, HF5.out, HLX.out, HB5.out⟩
    case round =>
      obtain ⟨k, hk, rfl, hbf, hrf, hlb, hbw⟩ := hrel
      have HBF := Lib.hid hbf
      have HRF := Lib.hid hrf
      have HLB := Lib.hid hlb
      have HBW := Lib.hid hbw
      have hsz := hbw.size
      clear hbf hrf hlb hbw
      by_cases hlt : k < 3
      · obtain ⟨l0, l1⟩ := HCL.out _ HLB.out k hlt
        have hlw := HLB.out.lt
        have hk3 : (k : Int) < 3 := by omega
        have SB := HSM.out k
        have SF := HSF.out k
        have HST : Hid (bestTo (p1, q1) fs (k + 1) = if (fs k).1 * (bestTo (p1, q1) fs k).2 < (bestTo (p1, q1) fs k).1 * (fs k).2 then fs k else bestTo (p1, q1) fs k) := rfl
        obtain ⟨⟨bn, bd⟩, hbd⟩ : ∃ x, bestTo (p1, q1) fs k = x := ⟨_, rfl⟩
        obtain ⟨⟨fn, fd⟩, hfd⟩ : ∃ x, fs k = x := ⟨_, rfl⟩
        rw [hbd] at SB HST HBF
        rw [hfd] at SF HST l0 l1
        clear hbd hfd
        dsimp only at SB SF HST l0 l1
        have HBF2 : Hid (FrB wr w2.heap.size ⟨(bn : Int), (bd : Int)⟩) := HBF.out
        clear HBF
        obtain ⟨V, hV⟩ : ∃ V : World, V = wr.alloc (.cells #[.int .i64 (fn : Int), .int .i64 (fd : Int)] 76) := ⟨_, rfl⟩
        have bV : RowKit.Below wr.heap.size wr V := by rw [hV]; exact (Below.refl _ _).alloc (Nat.le_refl _) _
        have FV : FrB V wr.heap.size ⟨(fn : Int), (fd : Int)⟩ := by rw [hV]; exact Blk.new _ _ _
        have HFV := Lib.hid FV
        have HBV := Lib.hid (HBF2.out.bel bV)
        have HRV := Lib.hid (HRF.out.bel bV)
        have HLV := Lib.hid (HLB.out.bel bV)
        have HBWV := Lib.hid (HBW.out.trans (bV.mono hsz))
        obtain ⟨b0, b1⟩ := HBF2.out.cells
        have hbl : w2.heap.size < wr.heap.size := HBF2.out.lt
        obtain ⟨X, hX1, hX2, HX⟩ := cmpN_any fn fd bn bd SF SB V
        have HXX := Lib.hid HX
        have HX1 := Lib.hid hX1
        have HX2 := Lib.hid hX2
        clear bV FV hX1 hX2 HX
        go_wp2_with fail
        rw [← hV]
        clear hV l0 l1 b0 b1
        refine HXX.out.mono ?_
        rintro e w3 ⟨rfl, hb3⟩
        have HF3 := Lib.hid (HFV.out.bel hb3)
        have HB3 := Lib.hid (HBV.out.bel hb3)
        have HR3 := Lib.hid (HRV.out.bel hb3)
        have HL3 := Lib.hid (HLV.out.bel hb3)
        have HW3 := Lib.hid (HBWV.out.trans (hb3.mono HBWV.out.size))
        clear hb3
        by_cases hc : fn * bd < bn * fd
        · have hx := HX1.out hc
          have HN : Hid (bestTo (p1, q1) fs (k + 1) = (fn, fd)) := by show _ = _; rw [HST.out, if_pos hc]
          obtain ⟨g0, g1⟩ := HF3.out.cells
          obtain ⟨f0, f1⟩ := HB3.out.fro
          obtain ⟨b0, b1⟩ := HB3.out.cells
          clear hc
          go_wp2
          go_roundw
          case rel =>
            refine ⟨k + 1, by omega, by go_num, ?_, ?_, ?_, ?_⟩
            · rw [HN.out]
              exact Blk.set_lit (Blk.set_lit HB3.out rfl) rfl
            · exact (Blk.far (p := ⟨w2.heap.size, 0, none⟩) HR3.out (by show _ ≠ w2.heap.size; omega) _).far (p := ⟨w2.heap.size, 1, none⟩) (by show _ ≠ w2.heap.size; omega) _
            · exact (Blk.far (p := ⟨w2.heap.size, 0, none⟩) HL3.out (by show _ ≠ w2.heap.size; omega) _).far (p := ⟨w2.heap.size, 1, none⟩) (by show _ ≠ w2.heap.size; omega) _
            · exact (HW3.out.setCell (p := ⟨w2.heap.size, 0, none⟩) (by show _ ≤ w2.heap.size; omega) _).setCell (p := ⟨w2.heap.size, 1, none⟩) (by show _ ≤ w2.heap.size; omega) _
          case measure => simp [intOf]; omega
        · have hx := HX2.out hc
          have HN : Hid (bestTo (p1, q1) fs (k + 1) = (bn, bd)) := by show _ = _; rw [HST.out, if_neg hc]
          clear hc
          go_wp2
          go_roundw
          case rel => exact ⟨k + 1, by omega, by go_num, by rw [HN.out]; exact HB3.out, HR3.out, HL3.out, HW3.out⟩
          case measure => simp [intOf]; omega
      · have hk3 : k = 3 := by omega
        subst hk3
        have HEE : Hid (ssF a b = frN (bestTo (p1, q1) fs 3)) := by
          show _ = _
          rw [HE.out, bestTo_fr, bestTo_fr, bestTo_fr, HFS.out]; rfl
        obtain ⟨⟨bn, bd⟩, hbd⟩ : ∃ x, bestTo (p1, q1) fs 3 = x := ⟨_, rfl⟩
        rw [hbd] at HEE HBF
        clear hbd
        have HBF2 : Hid (FrB wr w2.heap.size ⟨(bn : Int), (bd : Int)⟩) := HBF.out
        obtain ⟨b0, b1⟩ := HBF2.out.cells
        obtain ⟨c0', c1'⟩ := HRF.out.cells
        obtain ⟨f0, f1⟩ := HRF.out.fro
        go_wp2
        exact bodyPost_ret (v := .agg #[.int .i64 (bn : Int), .int .i64 (bd : Int)]) (by simp [results, Tryd.results107, go_sem, c0', c1']) rfl ⟨by rw [HEE.out]; rfl, (HBW.out.setCell (p := ⟨w.heap.size + 1 + 1, 0, none⟩) (by show _ ≤ w.heap.size + 1 + 1; omega) _).setCell (p := ⟨w.heap.size + 1 + 1, 1, none⟩) (by show _ ≤ w.heap.size + 1 + 1; omega) _⟩
end Go.Proofs.YtdhobglhjdgboaaDoor
