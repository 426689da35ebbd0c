/- FnFractions: the walk: the law returns true for every input. -/
import Derived.Test.YtbklbhbjlbojdaaSegs
import Derived.Test.YtbklbhbjlbojdaaPtSq
import Derived.Test.YtbklbhbjlbojdaaFracOrd
namespace Go.Proofs.Ytbklbhbjlbojdaa.lawFractions
open Go.RowKit
set_option linter.unusedVariables false

def SegBlk (w : World) (b : Nat) (s : Seg) : Prop := Blk w b 91 #[.int .i64 s.ax, .int .i64 s.ay, .int .i64 s.bx, .int .i64 s.by_]
def FrBlk (w : World) (b : Nat) (f : Fraction) : Prop := Blk w b 95 #[.int .i64 f.num, .int .i64 f.den]
theorem SegBlk.bel {w w' : World} {b : Nat} {s : Seg} (h : SegBlk w b s) (hb : Below w.heap.size w w') : SegBlk w' b s := Blk.bel h hb
theorem FrBlk.bel {w w' : World} {b : Nat} {f : Fraction} (h : FrBlk w b f) (hb : Below w.heap.size w w') : FrBlk w' b f := Blk.bel h hb
theorem SegBlk.cells {w : World} {b : Nat} {s : Seg} (h : SegBlk w b s) : w.cell? ⟨b, 0, none⟩ = some (.int .i64 s.ax) ∧ w.cell? ⟨b, 1, none⟩ = some (.int .i64 s.ay) ∧ w.cell? ⟨b, 2, none⟩ = some (.int .i64 s.bx) ∧ w.cell? ⟨b, 3, none⟩ = some (.int .i64 s.by_) :=
  ⟨Blk.cell h 0, Blk.cell h 1, Blk.cell h 2, Blk.cell h 3⟩
theorem FrBlk.cells {w : World} {b : Nat} {f : Fraction} (h : FrBlk w b f) : w.cell? ⟨b, 0, none⟩ = some (.int .i64 f.num) ∧ w.cell? ⟨b, 1, none⟩ = some (.int .i64 f.den) :=
  ⟨Blk.cell h 0, Blk.cell h 1⟩
theorem blk_lt {w : World} {b : Nat} {s : Seg} (h : SegBlk w b s) : b < w.heap.size := Blk.lt h
theorem fr_lt {w : World} {b : Nat} {f : Fraction} (h : FrBlk w b f) : b < w.heap.size := Blk.lt h
theorem seg_new1 (w : World) (s t : Seg) : SegBlk ((w.alloc (.cells #[.int .i64 s.ax, .int .i64 s.ay, .int .i64 s.bx, .int .i64 s.by_] 91)).alloc (.cells #[.int .i64 t.ax, .int .i64 t.ay, .int .i64 t.bx, .int .i64 t.by_] 91)) w.heap.size s := (Blk.new _ _ _).alloc _
theorem seg_new2 (w : World) (s t : Seg) : SegBlk ((w.alloc (.cells #[.int .i64 s.ax, .int .i64 s.ay, .int .i64 s.bx, .int .i64 s.by_] 91)).alloc (.cells #[.int .i64 t.ax, .int .i64 t.ay, .int .i64 t.bx, .int .i64 t.by_] 91)) (w.heap.size + 1) t := by
  have := Blk.new (w.alloc (.cells #[.int .i64 s.ax, .int .i64 s.ay, .int .i64 s.bx, .int .i64 s.by_] 91)) 91 #[.int .i64 t.ax, .int .i64 t.ay, .int .i64 t.bx, .int .i64 t.by_]
  unfold SegBlk; simpa using this

theorem a2Long_any (A B : Option Addr) (n c m d : Nat) (hn : n ≤ 9223372036854775807) (hm : m ≤ 9223372036854775807) (w : World) :
    Calls Try.prog 55 #[.slice A n c, .slice B m d] w fun e w' => e = .returned (.bool (decide (3000 < n) || decide (3000 < m))) ∧ w = w' := by
  by_cases h1 : 3000 < n
  · have g1 : (3000 : Int) < (n : Int) := by omega
    have H : Hid ((decide (3000 < n) || decide (3000 < m)) = true) := by show _ = _; rw [decide_eq_true h1]; rfl
    go_enter Try.func55, Try.ntmps55
    go_wp2
    go_ret
    exact ⟨by first | (rw [H.out]; rfl) | rfl, rfl⟩
  · have g1 : ¬ (3000 : Int) < (n : Int) := by omega
    by_cases h2 : 3000 < m
    · have g2 : (3000 : Int) < (m : Int) := by omega
      have H : Hid ((decide (3000 < n) || decide (3000 < m)) = true) := by show _ = _; rw [decide_eq_true h2]; simp
      go_enter Try.func55, Try.ntmps55
      go_wp2
      go_ret
      exact ⟨by first | (rw [H.out]; rfl) | rfl, rfl⟩
    · have g2 : ¬ (3000 : Int) < (m : Int) := by omega
      have H : Hid ((decide (3000 < n) || decide (3000 < m)) = false) := by show _ = _; rw [decide_eq_false h1, decide_eq_false h2]; rfl
      go_enter Try.func55, Try.ntmps55
      go_wp2
      go_ret
      exact ⟨by first | (rw [H.out]; rfl) | rfl, rfl⟩

set_option maxRecDepth 100000 in
set_option maxHeartbeats 6400000 in
theorem walk (A0 : Option Addr) (n0 c0 : Nat) (xs0 : List Int) (A1 : Option Addr) (n1 c1 : Nat) (xs1 : List Int) (w : World) (hn0 : n0 ≤ 9223372036854775807) (ha0 : Arr bc 1 w 0 w.heap.size A0 n0 xs0 ∧ ∀ p ∈ xs0, 0 ≤ p ∧ p ≤ 255) (hn1 : n1 ≤ 9223372036854775807) (ha1 : Arr bc 1 w 0 w.heap.size A1 n1 xs1 ∧ ∀ p ∈ xs1, 0 ≤ p ∧ p ≤ 255) :
    Calls Try.prog 9 #[.slice A0 n0 c0, .slice A1 n1 c1] w fun e w' => e = .returned (.bool true) ∧ Below w.heap.size w w' := by
  by_cases hl : (decide (3000 < n0) || decide (3000 < n1)) = true
  · have H := Lib.hid hl
    clear hl
    go_enter Try.func9, Try.ntmps9
    go_wp2_with fail
    refine (a2Long_any A0 A1 n0 c0 n1 c1 hn0 hn1 w).mono ?_
    rintro e w1 ⟨rfl, rfl⟩
    rw [H.out]
    go_wp2
    go_ret
    exact ⟨rfl, Below.refl _ _⟩
  · have hle : n0 ≤ 3000 ∧ n1 ≤ 3000 := by
      rw [Bool.or_eq_true, decide_eq_true_eq, decide_eq_true_eq] at hl
      omega
    have H : Hid ((decide (3000 < n0) || decide (3000 < n1)) = false) := by show _ = _; simpa using hl
    obtain ⟨h0, x0⟩ := ha0
    obtain ⟨h1, x1⟩ := ha1
    have H1 := Lib.hid h1
    have X1 := Lib.hid x1
    clear hl h1 x1
    go_enter Try.func9, Try.ntmps9
    go_wp2_with fail
    refine (a2Long_any A0 A1 n0 c0 n1 c1 hn0 hn1 w).mono ?_
    rintro e w1 ⟨rfl, rfl⟩
    rw [H.out]
    go_wp2_with fail
    refine (a2Segments_any A0 n0 c0 xs0 w h0 x0 (by omega)).mono ?_
    rintro e w1 ⟨a, b, rfl, ha, hb, hb1⟩
    clear h0 x0
    obtain ⟨W2, hW2⟩ : ∃ W2 : World, W2 = (w1.alloc (.cells #[.int .i64 a.ax, .int .i64 a.ay, .int .i64 a.bx, .int .i64 a.by_] 91)).alloc (.cells #[.int .i64 b.ax, .int .i64 b.ay, .int .i64 b.bx, .int .i64 b.by_] 91) := ⟨_, rfl⟩
    have hb2 : Below w1.heap.size w1 W2 := by rw [hW2]; exact ((Below.refl _ _).alloc (Nat.le_refl _) _).alloc (by simp) _
    have sa : SegBlk W2 w1.heap.size a := by rw [hW2]; exact seg_new1 _ _ _
    have sb : SegBlk W2 (w1.heap.size + 1) b := by rw [hW2]; exact seg_new2 _ _ _
    obtain ⟨ga, hga⟩ : ∃ g, w1.heap.size = g := ⟨_, rfl⟩
    have B2 := hb1.trans (hb2.mono hb1.size)
    go_wp2_with fail
    rw [← hW2]
    clear hW2
    rw [hga] at sa sb
    have H1W := (H1.out.below B2).more B2.size
    refine (a2Segments_any A1 n1 c1 xs1 W2 H1W X1.out (by omega)).mono ?_
    rintro e w3 ⟨c, d, rfl, hc, hd, hb3⟩
    clear H1W
    have sa_n := sa.bel hb3
    clear sa
    have sa := sa_n
    clear sa_n
    have sb_n := sb.bel hb3
    clear sb
    have sb := sb_n
    clear sb_n
    have B3 := B2.trans (hb3.mono B2.size)
    obtain ⟨gc, hgc⟩ : ∃ g, w3.heap.size = g := ⟨_, rfl⟩
    obtain ⟨W4, hW4⟩ : ∃ W4 : World, W4 = (w3.alloc (.cells #[.int .i64 c.ax, .int .i64 c.ay, .int .i64 c.bx, .int .i64 c.by_] 91)).alloc (.cells #[.int .i64 d.ax, .int .i64 d.ay, .int .i64 d.bx, .int .i64 d.by_] 91) := ⟨_, rfl⟩
    have hb4 : Below w3.heap.size w3 W4 := by rw [hW4]; exact ((Below.refl _ _).alloc (Nat.le_refl _) _).alloc (by simp) _
    have sa_n := sa.bel hb4
    clear sa
    have sa := sa_n
    clear sa_n
    have sb_n := sb.bel hb4
    clear sb
    have sb := sb_n
    clear sb_n
    have sc : SegBlk W4 gc c := by rw [hW4, ← hgc]; exact seg_new1 _ _ _
    have sd : SegBlk W4 (gc + 1) d := by rw [hW4, ← hgc]; exact seg_new2 _ _ _
    have B4 := B3.trans (hb4.mono B3.size)
    obtain ⟨sa0, sa1, sa2, sa3⟩ := sa.cells
    obtain ⟨sb0, sb1, sb2, sb3⟩ := sb.cells
    obtain ⟨sc0, sc1, sc2, sc3⟩ := sc.cells
    obtain ⟨sd0, sd1, sd2, sd3⟩ := sd.cells
    rw [hW4] at sa0 sa1 sa2 sa3 sb0 sb1 sb2 sb3 sc0 sc1 sc2 sc3 sd0 sd1 sd2 sd3
    go_wp2_with fail
    rw [← hW4]
    clear hW4
    refine (pointSquare_any a ⟨c.ax, c.ay⟩ W4 ha ⟨hc.ax, hc.ay⟩).mono ?_
    rintro e v1 ⟨f1, rfl, ok1, hv1⟩
    clear sa0 sa1 sa2 sa3 sb0 sb1 sb2 sb3 sc0 sc1 sc2 sc3 sd0 sd1 sd2 sd3
    have sa_n := sa.bel hv1
    clear sa
    have sa := sa_n
    clear sa_n
    have sb_n := sb.bel hv1
    clear sb
    have sb := sb_n
    clear sb_n
    have sc_n := sc.bel hv1
    clear sc
    have sc := sc_n
    clear sc_n
    have sd_n := sd.bel hv1
    clear sd
    have sd := sd_n
    clear sd_n
    have C1 := B4.trans (hv1.mono B4.size)
    obtain ⟨g1, hg1⟩ : ∃ g, v1.heap.size = g := ⟨_, rfl⟩
    obtain ⟨V1, hV1⟩ : ∃ V : World, V = v1.alloc (.cells #[.int .i64 f1.num, .int .i64 f1.den] 95) := ⟨_, rfl⟩
    have hu1 : Below v1.heap.size v1 V1 := by rw [hV1]; exact (Below.refl _ _).alloc (Nat.le_refl _) _
    have sa_n := sa.bel hu1
    clear sa
    have sa := sa_n
    clear sa_n
    have sb_n := sb.bel hu1
    clear sb
    have sb := sb_n
    clear sb_n
    have sc_n := sc.bel hu1
    clear sc
    have sc := sc_n
    clear sc_n
    have sd_n := sd.bel hu1
    clear sd
    have sd := sd_n
    clear sd_n
    have q1 : FrBlk V1 g1 f1 := by rw [hV1, ← hg1]; exact Blk.new _ _ _
    have D1 := C1.trans (hu1.mono C1.size)
    obtain ⟨sa0, sa1, sa2, sa3⟩ := sa.cells
    obtain ⟨sb0, sb1, sb2, sb3⟩ := sb.cells
    obtain ⟨sc0, sc1, sc2, sc3⟩ := sc.cells
    obtain ⟨sd0, sd1, sd2, sd3⟩ := sd.cells
    obtain ⟨q10, q11⟩ := q1.cells
    rw [hV1] at sa0 sa1 sa2 sa3 sb0 sb1 sb2 sb3 sc0 sc1 sc2 sc3 sd0 sd1 sd2 sd3 q10 q11
    go_wp2_with fail
    rw [← hV1]
    clear hV1
    refine (pointSquare_any b ⟨c.bx, c.by_⟩ V1 hb ⟨hc.bx, hc.by_⟩).mono ?_
    rintro e v2 ⟨f2, rfl, ok2, hv2⟩
    clear sa0 sa1 sa2 sa3 sb0 sb1 sb2 sb3 sc0 sc1 sc2 sc3 sd0 sd1 sd2 sd3 q10 q11
    have sa_n := sa.bel hv2
    clear sa
    have sa := sa_n
    clear sa_n
    have sb_n := sb.bel hv2
    clear sb
    have sb := sb_n
    clear sb_n
    have sc_n := sc.bel hv2
    clear sc
    have sc := sc_n
    clear sc_n
    have sd_n := sd.bel hv2
    clear sd
    have sd := sd_n
    clear sd_n
    have q1_n := q1.bel hv2
    clear q1
    have q1 := q1_n
    clear q1_n
    have C2 := D1.trans (hv2.mono D1.size)
    obtain ⟨g2, hg2⟩ : ∃ g, v2.heap.size = g := ⟨_, rfl⟩
    obtain ⟨V2, hV2⟩ : ∃ V : World, V = v2.alloc (.cells #[.int .i64 f2.num, .int .i64 f2.den] 95) := ⟨_, rfl⟩
    have hu2 : Below v2.heap.size v2 V2 := by rw [hV2]; exact (Below.refl _ _).alloc (Nat.le_refl _) _
    have sa_n := sa.bel hu2
    clear sa
    have sa := sa_n
    clear sa_n
    have sb_n := sb.bel hu2
    clear sb
    have sb := sb_n
    clear sb_n
    have sc_n := sc.bel hu2
    clear sc
    have sc := sc_n
    clear sc_n
    have sd_n := sd.bel hu2
    clear sd
    have sd := sd_n
    clear sd_n
    have q1_n := q1.bel hu2
    clear q1
    have q1 := q1_n
    clear q1_n
    have q2 : FrBlk V2 g2 f2 := by rw [hV2, ← hg2]; exact Blk.new _ _ _
    have D2 := C2.trans (hu2.mono C2.size)
    obtain ⟨sa0, sa1, sa2, sa3⟩ := sa.cells
    obtain ⟨sb0, sb1, sb2, sb3⟩ := sb.cells
    obtain ⟨sc0, sc1, sc2, sc3⟩ := sc.cells
    obtain ⟨sd0, sd1, sd2, sd3⟩ := sd.cells
    obtain ⟨q10, q11⟩ := q1.cells
    obtain ⟨q20, q21⟩ := q2.cells
    rw [hV2] at sa0 sa1 sa2 sa3 sb0 sb1 sb2 sb3 sc0 sc1 sc2 sc3 sd0 sd1 sd2 sd3 q10 q11 q20 q21
    go_wp2_with fail
    rw [← hV2]
    clear hV2
    refine (pointSquare_any d ⟨a.ax, a.ay⟩ V2 hd ⟨ha.ax, ha.ay⟩).mono ?_
    rintro e v3 ⟨f3, rfl, ok3, hv3⟩
    clear sa0 sa1 sa2 sa3 sb0 sb1 sb2 sb3 sc0 sc1 sc2 sc3 sd0 sd1 sd2 sd3 q10 q11 q20 q21
    have sa_n := sa.bel hv3
    clear sa
    have sa := sa_n
    clear sa_n
    have sb_n := sb.bel hv3
    clear sb
    have sb := sb_n
    clear sb_n
    have sc_n := sc.bel hv3
    clear sc
    have sc := sc_n
    clear sc_n
    have sd_n := sd.bel hv3
    clear sd
    have sd := sd_n
    clear sd_n
    have q1_n := q1.bel hv3
    clear q1
    have q1 := q1_n
    clear q1_n
    have q2_n := q2.bel hv3
    clear q2
    have q2 := q2_n
    clear q2_n
    have C3 := D2.trans (hv3.mono D2.size)
    obtain ⟨g3, hg3⟩ : ∃ g, v3.heap.size = g := ⟨_, rfl⟩
    obtain ⟨V3, hV3⟩ : ∃ V : World, V = v3.alloc (.cells #[.int .i64 f3.num, .int .i64 f3.den] 95) := ⟨_, rfl⟩
    have hu3 : Below v3.heap.size v3 V3 := by rw [hV3]; exact (Below.refl _ _).alloc (Nat.le_refl _) _
    have sa_n := sa.bel hu3
    clear sa
    have sa := sa_n
    clear sa_n
    have sb_n := sb.bel hu3
    clear sb
    have sb := sb_n
    clear sb_n
    have sc_n := sc.bel hu3
    clear sc
    have sc := sc_n
    clear sc_n
    have sd_n := sd.bel hu3
    clear sd
    have sd := sd_n
    clear sd_n
    have q1_n := q1.bel hu3
    clear q1
    have q1 := q1_n
    clear q1_n
    have q2_n := q2.bel hu3
    clear q2
    have q2 := q2_n
    clear q2_n
    have q3 : FrBlk V3 g3 f3 := by rw [hV3, ← hg3]; exact Blk.new _ _ _
    have D3 := C3.trans (hu3.mono C3.size)
    obtain ⟨sa0, sa1, sa2, sa3⟩ := sa.cells
    obtain ⟨sb0, sb1, sb2, sb3⟩ := sb.cells
    obtain ⟨sc0, sc1, sc2, sc3⟩ := sc.cells
    obtain ⟨sd0, sd1, sd2, sd3⟩ := sd.cells
    obtain ⟨q10, q11⟩ := q1.cells
    obtain ⟨q20, q21⟩ := q2.cells
    obtain ⟨q30, q31⟩ := q3.cells
    rw [hV3] at sa0 sa1 sa2 sa3 sb0 sb1 sb2 sb3 sc0 sc1 sc2 sc3 sd0 sd1 sd2 sd3 q10 q11 q20 q21 q30 q31
    have E12 := cf_eq ok1 ok2
    have N12 := cf_neg ok1 ok2
    have R12 := cf_range f1 f2
    have R23 := cf_range f2 f3
    have R13 := cf_range f1 f3
    have T13 := fun h h' => cf_trans ok1 ok2 ok3 h h'
    have KP := (cf_val ok1 ok2).2
    have KQ := (cf_val ok2 ok1).2
    have KR := (cf_val ok2 ok3).2
    have KS := (cf_val ok1 ok3).2
    obtain ⟨P, hP⟩ : ∃ z, cfN f1 f2 = z := ⟨_, rfl⟩
    obtain ⟨Q, hQ⟩ : ∃ z, cfN f2 f1 = z := ⟨_, rfl⟩
    obtain ⟨R, hR⟩ : ∃ z, cfN f2 f3 = z := ⟨_, rfl⟩
    obtain ⟨S, hS⟩ : ∃ z, cfN f1 f3 = z := ⟨_, rfl⟩
    rw [hP, hQ] at N12
    rw [hP] at E12 R12
    rw [hR] at R23
    rw [hS] at R13
    rw [hP, hR, hS] at T13
    have EF := run_eql_Fraction f1.num f1.den f2.num f2.den
    rw [E12] at EF
    clear E12
    go_wp2_with fail
    rw [← hV3]
    clear hV3
    refine (compareFractions_any f1 f2 V3).mono ?_
    rintro e z1 ⟨rfl, hz1⟩
    rw [hP, KP]
    clear hP KP
    clear sa0 sa1 sa2 sa3 sb0 sb1 sb2 sb3 sc0 sc1 sc2 sc3 sd0 sd1 sd2 sd3 q10 q11 q20 q21 q30 q31
    have sa_n := sa.bel hz1
    clear sa
    have sa := sa_n
    clear sa_n
    have sb_n := sb.bel hz1
    clear sb
    have sb := sb_n
    clear sb_n
    have sc_n := sc.bel hz1
    clear sc
    have sc := sc_n
    clear sc_n
    have sd_n := sd.bel hz1
    clear sd
    have sd := sd_n
    clear sd_n
    have q1_n := q1.bel hz1
    clear q1
    have q1 := q1_n
    clear q1_n
    have q2_n := q2.bel hz1
    clear q2
    have q2 := q2_n
    clear q2_n
    have q3_n := q3.bel hz1
    clear q3
    have q3 := q3_n
    clear q3_n
    have G1 := D3.trans (hz1.mono D3.size)
    obtain ⟨sa0, sa1, sa2, sa3⟩ := sa.cells
    obtain ⟨sb0, sb1, sb2, sb3⟩ := sb.cells
    obtain ⟨sc0, sc1, sc2, sc3⟩ := sc.cells
    obtain ⟨sd0, sd1, sd2, sd3⟩ := sd.cells
    obtain ⟨q10, q11⟩ := q1.cells
    obtain ⟨q20, q21⟩ := q2.cells
    obtain ⟨q30, q31⟩ := q3.cells
    go_wp2_with fail
    refine (compareFractions_any f2 f1 z1).mono ?_
    rintro e z2 ⟨rfl, hz2⟩
    rw [hQ, KQ]
    clear hQ KQ
    clear sa0 sa1 sa2 sa3 sb0 sb1 sb2 sb3 sc0 sc1 sc2 sc3 sd0 sd1 sd2 sd3 q10 q11 q20 q21 q30 q31
    have sa_n := sa.bel hz2
    clear sa
    have sa := sa_n
    clear sa_n
    have sb_n := sb.bel hz2
    clear sb
    have sb := sb_n
    clear sb_n
    have sc_n := sc.bel hz2
    clear sc
    have sc := sc_n
    clear sc_n
    have sd_n := sd.bel hz2
    clear sd
    have sd := sd_n
    clear sd_n
    have q1_n := q1.bel hz2
    clear q1
    have q1 := q1_n
    clear q1_n
    have q2_n := q2.bel hz2
    clear q2
    have q2 := q2_n
    clear q2_n
    have q3_n := q3.bel hz2
    clear q3
    have q3 := q3_n
    clear q3_n
    have G2 := G1.trans (hz2.mono G1.size)
    obtain ⟨sa0, sa1, sa2, sa3⟩ := sa.cells
    obtain ⟨sb0, sb1, sb2, sb3⟩ := sb.cells
    obtain ⟨sc0, sc1, sc2, sc3⟩ := sc.cells
    obtain ⟨sd0, sd1, sd2, sd3⟩ := sd.cells
    obtain ⟨q10, q11⟩ := q1.cells
    obtain ⟨q20, q21⟩ := q2.cells
    obtain ⟨q30, q31⟩ := q3.cells
    go_wp2_with fail
    refine (compareFractions_any f2 f3 z2).mono ?_
    rintro e z3 ⟨rfl, hz3⟩
    rw [hR, KR]
    clear hR KR
    clear sa0 sa1 sa2 sa3 sb0 sb1 sb2 sb3 sc0 sc1 sc2 sc3 sd0 sd1 sd2 sd3 q10 q11 q20 q21 q30 q31
    have sa_n := sa.bel hz3
    clear sa
    have sa := sa_n
    clear sa_n
    have sb_n := sb.bel hz3
    clear sb
    have sb := sb_n
    clear sb_n
    have sc_n := sc.bel hz3
    clear sc
    have sc := sc_n
    clear sc_n
    have sd_n := sd.bel hz3
    clear sd
    have sd := sd_n
    clear sd_n
    have q1_n := q1.bel hz3
    clear q1
    have q1 := q1_n
    clear q1_n
    have q2_n := q2.bel hz3
    clear q2
    have q2 := q2_n
    clear q2_n
    have q3_n := q3.bel hz3
    clear q3
    have q3 := q3_n
    clear q3_n
    have G3 := G2.trans (hz3.mono G2.size)
    obtain ⟨sa0, sa1, sa2, sa3⟩ := sa.cells
    obtain ⟨sb0, sb1, sb2, sb3⟩ := sb.cells
    obtain ⟨sc0, sc1, sc2, sc3⟩ := sc.cells
    obtain ⟨sd0, sd1, sd2, sd3⟩ := sd.cells
    obtain ⟨q10, q11⟩ := q1.cells
    obtain ⟨q20, q21⟩ := q2.cells
    obtain ⟨q30, q31⟩ := q3.cells
    go_wp2_with fail
    refine (compareFractions_any f1 f3 z3).mono ?_
    rintro e z4 ⟨rfl, hz4⟩
    rw [hS, KS]
    clear hS KS
    clear sa0 sa1 sa2 sa3 sb0 sb1 sb2 sb3 sc0 sc1 sc2 sc3 sd0 sd1 sd2 sd3 q10 q11 q20 q21 q30 q31
    have sa_n := sa.bel hz4
    clear sa
    have sa := sa_n
    clear sa_n
    have sb_n := sb.bel hz4
    clear sb
    have sb := sb_n
    clear sb_n
    have sc_n := sc.bel hz4
    clear sc
    have sc := sc_n
    clear sc_n
    have sd_n := sd.bel hz4
    clear sd
    have sd := sd_n
    clear sd_n
    have q1_n := q1.bel hz4
    clear q1
    have q1 := q1_n
    clear q1_n
    have q2_n := q2.bel hz4
    clear q2
    have q2 := q2_n
    clear q2_n
    have q3_n := q3.bel hz4
    clear q3
    have q3 := q3_n
    clear q3_n
    have G4 := G3.trans (hz4.mono G3.size)
    obtain ⟨sa0, sa1, sa2, sa3⟩ := sa.cells
    obtain ⟨sb0, sb1, sb2, sb3⟩ := sb.cells
    obtain ⟨sc0, sc1, sc2, sc3⟩ := sc.cells
    obtain ⟨sd0, sd1, sd2, sd3⟩ := sd.cells
    obtain ⟨q10, q11⟩ := q1.cells
    obtain ⟨q20, q21⟩ := q2.cells
    obtain ⟨q30, q31⟩ := q3.cells
    have hcase : P = 1 ∨ (P = 0 ∨ P = -1) ∧ (R = 1 ∨ (R ≤ 0 ∧ S ≤ 0)) := by
      by_cases h1 : P = 1
      · exact .inl h1
      · right
        refine ⟨by omega, ?_⟩
        by_cases h2 : R = 1
        · exact .inl h2
        · exact .inr ⟨by omega, T13 (by omega) (by omega)⟩
    obtain rfl : Q = -P := by omega
    clear T13 N12
    rcases hcase with rfl | ⟨rfl | rfl, rfl | ⟨hr, hs⟩⟩
    all_goals (go_wp2; go_ret; exact ⟨rfl, G4⟩)
end Go.Proofs.Ytbklbhbjlbojdaa.lawFractions
