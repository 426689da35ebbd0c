/- The iterator over the cranes of a site that can lift a lift: its contract. -/
import Derived.Test.YtnidnmbicnhflaaSpecBest
import Derived.RangeFuncBox
import Derived.RangeFuncNested
import Derived.RangeFuncLeaves
import Derived.Shelf.Abstract
import Derived.OwnWalkIn
import Derived.TacticsInMore
import Derived.LoopNIn
import Derived.LoopIn
import Derived.RangeFuncBound
import Derived.RangeFuncCalls
import Derived.BigGuardPartIn
namespace Go.Proofs.Ytnidnmbicnhflaa
open Go.RowKit Go.Shelf
set_option linter.unusedVariables false
attribute [local go_sem] Oper.semAt_some

abbrev Place (n : Nat) := {i : Nat // i < n}
/-- the places below k that are able -/
def abSub (cs : List CV) (v : LiftV) (n : Nat) : Nat → List (Place n)
  | 0 => []
  | k + 1 => if h : k < n then (if ableAt cs v k then abSub cs v n k ++ [⟨k, h⟩] else abSub cs v n k) else abSub cs v n k
theorem abSub_yes {cs : List CV} {v : LiftV} {n k : Nat} (h : k < n) (ha : ableAt cs v k = true) : abSub cs v n (k + 1) = abSub cs v n k ++ [⟨k, h⟩] := by
  simp only [abSub, h, dite_true, ha, if_true]
theorem abSub_no {cs : List CV} {v : LiftV} {n k : Nat} (h : k < n) (ha : ableAt cs v k = false) : abSub cs v n (k + 1) = abSub cs v n k := by
  simp [abSub, h, ha]
theorem abSub_len (cs : List CV) (v : LiftV) (n k : Nat) : (abSub cs v n k).length ≤ k := by
  induction k with
  | zero => simp [abSub]
  | succ k ih =>
    simp only [abSub]
    split
    · split
      · simp; omega
      · omega
    · omega
theorem abSub_ints (cs : List CV) (v : LiftV) (n k : Nat) (hk : k ≤ n) : (abSub cs v n k).map (fun x => ((x.1 : Nat) : Int)) = ableTo cs v k := by
  induction k with
  | zero => simp [abSub, ableTo]
  | succ k ih =>
    have h : k < n := by omega
    have hs : ableTo cs v (k + 1) = if ableAt cs v k then ableTo cs v k ++ [(k : Int)] else ableTo cs v k := by
      unfold ableTo; rw [List.range_succ, List.filter_append, List.map_append]
      cases ha : ableAt cs v k <;> simp [ha]
    rw [hs]
    cases ha : ableAt cs v k
    · rw [abSub_no h ha, ih (by omega)]; rfl
    · rw [abSub_yes h ha, List.map_append, ih (by omega)]; rfl
/-- what lay below n₀ is as it was, and block B -/
def BKL (n₀ B : Nat) (W W' : World) : Prop := Below n₀ W W' ∧ W'.heap[B]? = W.heap[B]?
theorem BKL.refl (n₀ B : Nat) (W : World) : BKL n₀ B W W := ⟨Below.refl _ _, rfl⟩
theorem BKL.trans {n₀ B : Nat} {X Y Z : World} (h : BKL n₀ B X Y) (k : BKL n₀ B Y Z) : BKL n₀ B X Z := ⟨h.1.trans k.1, k.2.trans h.2⟩
theorem BKL.of_below {n₀ B : Nat} {W W' : World} (h : Below W.heap.size W W') (hn : n₀ ≤ W.heap.size) (hB : B < W.heap.size) : BKL n₀ B W W' := ⟨h.mono hn, h.block B hB⟩
theorem LiftAt.same {w w' : World} {b : Nat} {l : Lift} (h : LiftAt w b 0 l) (e : w'.heap[b]? = w.heap[b]?) : LiftAt w' b 0 l := by
  obtain ⟨c0, c1, c2, c3, c4, c5, c6, c7, c8⟩ := h
  exact ⟨(World.cell?_of_block (a := ⟨b, 0, none⟩) e).trans c0, (World.cell?_of_block (a := ⟨b, 0 + 1, none⟩) e).trans c1, (World.cell?_of_block (a := ⟨b, 0 + 2, none⟩) e).trans c2, (World.cell?_of_block (a := ⟨b, 0 + 3, none⟩) e).trans c3, (World.cell?_of_block (a := ⟨b, 0 + 4, none⟩) e).trans c4, (World.cell?_of_block (a := ⟨b, 0 + 5, none⟩) e).trans c5, (World.cell?_of_block (a := ⟨b, 0 + 6, none⟩) e).trans c6, (World.cell?_of_block (a := ⟨b, 0 + 7, none⟩) e).trans c7, (World.cell?_of_block (a := ⟨b, 0 + 8, none⟩) e).trans c8⟩
theorem grownOf {w w' : World} (h : Below w.heap.size w w') (row : Option Nat) : w.grownBy w' row := ⟨h.os, h.tape, h.output, h.size, fun k hk _ => h.block k hk⟩

set_option maxRecDepth 100000 in
set_option maxHeartbeats 2000000 in
theorem ables1_in (n : Nat) (hn : 1 ≤ n) (l Bs Bl n₀ lo : Nat) (A : Option Addr) (m c : Nat) (ps : List Crane) (cs : List CV) (hv : ps.map Crane.val = cs) (lf : Lift) (hm : m ≤ 1048576) (hp : ∀ p ∈ ps, p.wf) (hq : lf.v.name.size ≤ 9223372036854775807) (hok : siteOk cs = true) (hpl : plainB lf.v = true) (J Jx : List (Place m) → World → Prop) (B9 : Nat) (hJ : AbidesFrom B9 J)
    (hY : ∀ pre x W, J pre W → pre.length < m → YieldAt Fence.wide (n - 1) Try.prog l #[.int .i64 (x.1 : Int)] W fun e W' =>
      (e = .returned (.bool true) ∧ J (pre ++ [x]) W' ∧ BKL n₀ Bl W W') ∨ (e = .returned (.bool false) ∧ Jx (pre ++ [x]) W'))
    (W : World) (hBs : W.cell? ⟨Bs, 0, none⟩ = some (.slice A m c)) (hL : LiftAt W Bl 0 lf) (hBl : Bl < W.heap.size) (hn₀ : n₀ ≤ W.heap.size) (h : Cranes W lo n₀ A m ps) (h0 : J [] W) :
    CallsIn Fence.wide n Try.prog 58 #[.func (.yield l) #[] #[], .pointer (some ⟨Bs, 0, none⟩), .pointer (some ⟨Bl, 0, none⟩)] W fun e W' => (∃ v, e = .returned v) ∧
      ((∃ ys, ys = abSub cs lf.v m m ∧ J ys W') ∨ (∃ pre, (∃ k, k ≤ m ∧ pre = abSub cs lf.v m k) ∧ Jx pre W')) := by
  have HV := Lib.hid hv
  have HP := Lib.hid hp
  have HO := Lib.hid hok
  have HPL := Lib.hid hpl
  have HLL := Lib.hid hL
  have HC := Lib.hid h
  have HJ := Lib.hid hJ
  clear hv hp hok hpl hL h hJ
  have hro : Fence.wide.round = none := rfl
  refine callsIn_of_wp Try.func58 rfl trivial ?_ hro
  simp only [Try.ntmps58, List.size_toArray, List.length_cons, List.length_nil, Nat.reduceAdd, Nat.reduceSub, Array.replicate_succ, Array.replicate_zero, List.push_toArray, List.append_toArray, List.nil_append, List.cons_append]
  gi_wp2
  clear hBs
  gi_loopw [9] (fun i wr => ∃ k : Nat, k ≤ m ∧ i = .int .i64 k ∧ J (abSub cs lf.v m k) wr ∧ BKL n₀ Bl W wr ∧ W.heap.size ≤ wr.heap.size)
    (fun i _ => m - (intOf i).toNat)
  case atStart => exact ⟨0, Nat.zero_le _, rfl, h0, BKL.refl _ _ _, Nat.le_refl _⟩
  case round =>
    obtain ⟨k, hk, rfl, hJs, hnx, hsw⟩ := hrel
    have hsub := abSub_len cs lf.v m k
    by_cases hlt : k < m
    · obtain ⟨b, off, p, eA, hx, _, hbl, hrow, c0, c1, c2, c3, c4, c5, c6⟩ := Crane.at (HC.out.below hnx.1) hlt
      have HX := Lib.hid (cv_at HV.out hx)
      have hpw := HP.out p (List.mem_of_getElem? hx)
      have hkn : (k : Int) < (m : Int) := by omega
      have hk0 : (0 : Int) ≤ (k : Int) := by omega
      have HLW := Lib.hid (HLL.out.same hnx.2)
      have hbw : b < wr.heap.size := by omega
      have hblw : Bl < wr.heap.size := by omega
      have hb2 := (Below.refl wr.heap.size wr).alloc (Nat.le_refl _) (.cells #[.string p.v.name, .int .i64 p.v.ax, .int .i64 p.v.ay, .int .i64 p.v.height, .int .i64 p.v.jib, .int .i64 p.v.back, .slice p.r.a p.r.n p.r.cap] 47)
      have HROW := Lib.hid (hrow.more (hi' := wr.heap.size) (by omega))
      have HJS := Lib.hid hJs
      have HNX := Lib.hid hnx
      have HAT := Lib.hid (ableAt_of (v := lf.v) HX.out)
      have hyl : (abSub cs lf.v m k).length < m := by omega
      have d9 := HLW.out.below hb2 hblw
      obtain ⟨d0, d1, d2, d3, d4, d5, d6, d7, d8⟩ := d9
      clear hx hrow hJs hnx
      gi_wp2_with fail
      refine ⟨trivial, ?_⟩
      refine (callsIn_wide.2 (craneCan_any p lf _ lo lo ((HROW.out.below hb2).more hb2.size) hpw.n hpw.v.name hq (siteOk_at HO.out HX.out) HPL.out)).mono ?_
      rintro e w3 ⟨rfl, hb3⟩
      have hb4 : Below wr.heap.size wr w3 := hb2.trans (hb3.mono hb2.size)
      have hJ4 : J (abSub cs lf.v m k) w3 := HJ.out _ _ _ none HJS.out (grownOf hb4 none) (fun r e => by cases e)
      have hx4 : BKL n₀ Bl W w3 := HNX.out.trans (BKL.of_below hb4 (by omega) hblw)
      have hs4 := hb4.size
      clear c0 c1 c2 c3 c4 c5 c6 d0 d1 d2 d3 d4 d5 d6 d7 d8 hb2 hb3
      cases hab : ableB p.val lf.v
      · have HS := Lib.hid (abSub_no hlt (by rw [HAT.out]; exact hab))
        clear hab
        have HR : Hid (J (abSub cs lf.v m (k + 1)) w3 ∧ BKL n₀ Bl W w3 ∧ W.heap.size ≤ w3.heap.size) := ⟨by rw [HS.out]; exact hJ4, hx4, by omega⟩
        clear hJ4 hx4 hb4
        gi_wp2
        refine ⟨fun f hf => (by cases hf), ?_⟩
        gi_wp2
        rw [← eA]
        go_roundw
        case rel => exact ⟨k + 1, by omega, by go_num, HR.out.1, HR.out.2.1, HR.out.2.2⟩
        case measure => simp [intOf]; omega
      · have HS := Lib.hid (abSub_yes hlt (by rw [HAT.out]; exact hab))
        clear hab
        have HX4 := Lib.hid hx4
        obtain ⟨fn, tmps, assign, body, hy, hR⟩ := hY _ ⟨k, hlt⟩ w3 hJ4 hyl
        dsimp only at hy
        clear hJ4 hx4 hb4
        gi_wp2
        refine hR.mono ?_
        rintro e W3 (⟨rfl, hJ3, hk3⟩ | ⟨rfl, hJx3⟩)
        · have HR : Hid (J (abSub cs lf.v m (k + 1)) W3 ∧ BKL n₀ Bl W W3 ∧ W.heap.size ≤ W3.heap.size) := ⟨by rw [HS.out]; exact hJ3, HX4.out.trans hk3, by have := hk3.1.size; omega⟩
          gi_wp2
          rw [← eA]
          go_roundw
          case rel => exact ⟨k + 1, by omega, by go_num, HR.out.1, HR.out.2.1, HR.out.2.2⟩
          case measure => simp [intOf]; omega
        · gi_wp2
          refine bodyPost_ret (results_none rfl _ _ _) rfl ?_
          exact ⟨⟨_, rfl⟩, .inr ⟨_, ⟨k + 1, by omega, HS.out.symm⟩, hJx3⟩⟩
    · obtain rfl : k = m := by omega
      gi_wp2
      go_end0
      exact ⟨⟨_, rfl⟩, .inl ⟨_, rfl, hJs⟩⟩
end Go.Proofs.Ytnidnmbicnhflaa
