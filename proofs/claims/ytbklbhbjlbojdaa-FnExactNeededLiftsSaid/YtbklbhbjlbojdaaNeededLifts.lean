/- NeededLifts of the program: neN and lfCode. The range over maps.Keys(set). -/
import Derived.Test.YtbklbhbjlbojdaaNeeded
import Derived.Test.YtbklbhbjlbojdaaSpecNeeded
import Derived.RangeFuncBox
import Derived.RangeFuncFrom
import Derived.RangeFuncNested
import Derived.RangeFuncLeaves
import Derived.Sort.MapsRangeIn
import Derived.Lib.SlKeysI
import Derived.RegionIn
import Derived.Shelf.Abstract
import Derived.OwnWalkIn
import Derived.TacticsInMore
import Derived.LoopNIn
import Derived.LoopIn
namespace Go.Proofs.Ytbklbhbjlbojdaa
open Go.RowKit Go.Shelf Go.Maps Go.Sort
set_option linter.unusedVariables false
attribute [local go_sem] Oper.semAt_some

abbrev Lo := {x : Int // 0 ≤ x ∧ x < 10}
abbrev kEnc (x : Lo) : Array Value := #[.int .i64 x.1]
set_option maxHeartbeats 1000000 in
theorem keys_in (F : Fence) (n : Nat) (h5 : F.fn 99) (hro : F.round = none) (mb : Option Nat) (w : World) :
    CallsIn F n Try.prog 99 #[.map mb] w fun e w' => e = .returned (.func (.func 173) #[] #[.pointer (some ⟨w.heap.size, 0, none⟩)]) ∧ w' = w.alloc (.cells #[.map mb] 142) := by
  refine callsIn_of_wp Try.func99 rfl h5 ?_ hro
  simp only [Try.ntmps99, List.size_toArray, List.length_cons, List.length_nil, Nat.reduceAdd, Nat.reduceSub, Array.replicate_succ, Array.replicate_zero, List.push_toArray, List.append_toArray, List.nil_append, List.cons_append]
  gi_wp2
  go_ret
  exact ⟨rfl, rfl⟩

set_option maxRecDepth 100000 in
set_option maxHeartbeats 2000000 in
theorem keys1_in {H : Type} (F : Fence) (n : Nat) (h10 : F.fn 173) (hro : F.round = none) (hn : 1 ≤ n) (l Bm b nn : Nat) (D0 : DataW H) (hQ : ∀ x : Int, has D0 (.int .i64 x) = true → 0 ≤ x ∧ x < 10) (J Jx : List Lo → World → Prop)
    (hY : ∀ pre x W, J pre W → pre.length < Maps.size D0 → YieldAt F (n - 1) Try.prog l (kEnc x) W fun e W' =>
      (e = .returned (.bool true) ∧ J (pre ++ [x]) W' ∧ KeepsWalks W W') ∨ (e = .returned (.bool false) ∧ Jx (pre ++ [x]) W'))
    (W : World) (hJ : AbidesFrom W.heap.size J) (hm : W.cell? ⟨Bm, 0, none⟩ = some (.map (some b))) (hown : W.ownsMap Try.prog 2 (plainElem Try.prog 4) b nn D0) (h0 : J [] W) :
    CallsIn F n Try.prog 173 #[.func (.yield l) #[] #[], .pointer (some ⟨Bm, 0, none⟩)] W fun e W' => (∃ v, e = .returned v) ∧
      ((∃ ss : List Lo, (∀ x, x ∈ ss.map Subtype.val ↔ has D0 (.int .i64 x) = true) ∧ J ss W') ∨ (∃ pre : List Lo, True ∧ Jx pre W')) := by
  refine callsIn_of_wp Try.func173 rfl h10 ?_ hro
  simp only [Try.ntmps173, List.size_toArray, List.length_cons, List.length_nil, Nat.reduceAdd, Nat.reduceSub, Array.replicate_succ, Array.replicate_zero, List.push_toArray, List.append_toArray, List.nil_append, List.cons_append]
  gi_wp2_with (first
    | (gi_at_range; refine wpListIn_range_own _ rfl _ 142 rfl 2 4 (int_keyed Try.underlying2) Try.underlying142 _ b nn _ rfl hown ?_; intro w0 hrg0 hg0 hs0)
    | gi_in)
  go_frame
  gi_loopw [3] (fun _ wr => ∃ (left : Lit → Bool) (cnt : Nat) (ss : List Lo), wr.ranges Try.prog 2 (plainElem Try.prog 4) b W.heap.size nn D0 left cnt ∧ ss.length + cnt ≤ Maps.size D0 ∧ CollectedI D0 left (ss.map Subtype.val) ∧ J ss wr)
    (fun _ wr => wr.rangeLeft b W.heap.size)
  case atStart =>
    exact ⟨_, _, [], hrg0, by simp, CollectedI.start D0, hJ [] W w0 none h0 hg0 (fun r e => by cases e)⟩
  case round =>
    obtain ⟨left, cnt, ss, hrg, hcs, hC, hJs⟩ := hrel
    gi_wp2_with (first
      | (gi_at_next; refine wpListIn_next_ranges _ rfl _ rfl 2 (int_keyed Try.underlying2) (plainElem Try.prog 4) encZ id (fun key kl hk => by obtain ⟨x, hx, _⟩ := Maps.keyOf_i64 Try.underlying2 hk; exact ⟨x, hx⟩) (fun v _ _ => ⟨v, rfl⟩) b W.heap.size nn _ _ _ rfl hrg ?_ ?_)
      | gi_in)
    · intro hc0 hl0
      gi_wp2
      go_end0
      exact ⟨⟨_, rfl⟩, .inl ⟨ss, fun x => by rw [hC.2 x, hl0]; simp, hJs⟩⟩
    · intro x c kl yd yp w2 cnt2 hkey hlk hv hat hrg2 hlt hg2 hs2 hen
      obtain ⟨x', ex, rfl, _⟩ := Maps.keyOf_i64 Try.underlying2 hkey
      obtain rfl : x = x' := encZ_inj ex
      have hJ2 : J ss w2 := hJ ss wr w2 (some W.heap.size) hJs hg2 (fun r e => by cases e; exact ⟨Nat.le_refl _, hrg.iter_walk⟩)
      have hC2 := hC.step hlk hat
      have hx9 := hQ x ((hC2.2 x).1 (by simp)).1
      obtain ⟨fn, tmps, assign, body, hy, hR⟩ := hY ss ⟨x, hx9⟩ w2 hJ2 (by omega)
      clear hs2
      gi_wp2
      refine hR.mono ?_
      rintro e W3 (⟨rfl, hJ3, hk3⟩ | ⟨rfl, hJx3⟩)
      · gi_wp2
        have hrg3 := hrg2.of_walks hk3
        go_roundw
        case rel => exact ⟨_, cnt2, ss ++ [⟨x, hx9⟩], hrg3, by simp; omega, by simpa using hC2, hJ3⟩
        case measure => rw [hrg3.left_eq, hrg.left_eq]; exact hlt
      · gi_wp2
        refine bodyPost_ret (results_none rfl _ _ _) rfl ?_
        exact ⟨⟨_, rfl⟩, .inr ⟨_, trivial, hJx3⟩⟩

theorem keys_stops {H : Type} (F : Fence) (n : Nat) (h10 : F.fn 173) (hro : F.round = none) (hn : 1 ≤ n) (Bm b nn : Nat) (D0 : DataW H) (hQ : ∀ x : Int, has D0 (.int .i64 x) = true → 0 ≤ x ∧ x < 10) (w : World) (hBm : Bm < w.heap.size)
    (hm : w.cell? ⟨Bm, 0, none⟩ = some (.map (some b))) (hown : w.ownsMap Try.prog 2 (plainElem Try.prog 4) b nn D0) :
    SeqStopsK F n Try.prog 173 #[.pointer (some ⟨Bm, 0, none⟩)] kEnc KeepsWalks (fun ss => ∀ x, x ∈ ss.map Subtype.val ↔ has D0 (.int .i64 x) = true) (fun _ => True) (Maps.size D0) w := fun l J Jx W hW hJ _ hY h0 => by
  have hown' : W.ownsMap Try.prog 2 (plainElem Try.prog 4) b nn D0 := by
    have hbl := hown.lt
    obtain ⟨es, clock, hb, Ft, hs, hD⟩ := hown
    exact ⟨es, clock, (hW.block b hbl).trans hb, Ft, hs, hD⟩
  exact keys1_in F n h10 hro hn l Bm b nn D0 hQ J Jx hY W hJ ((hW.cell (p := ⟨Bm, 0, none⟩) hBm).trans hm) hown' h0

def neTo2 (pre : List Lo) : Int := (pre.map Subtype.val).foldl withI 0
theorem neTo2_snoc (pre : List Lo) (x : Lo) : neTo2 (pre ++ [x]) = withI (neTo2 pre) x.1 := by
  unfold neTo2
  rw [List.map_append, List.foldl_append]; rfl
theorem fold_with_bd : ∀ (xs : List Lo) (b : Int), 0 ≤ b → b < 2 ^ 10 → 0 ≤ (xs.map Subtype.val).foldl withI b ∧ (xs.map Subtype.val).foldl withI b < 2 ^ 10
  | [], b, h1, h2 => ⟨h1, h2⟩
  | x :: xs, b, h1, h2 => by
    rw [List.map_cons, List.foldl_cons]
    have := x.2
    exact fold_with_bd xs _ (withI_nonneg _ _) (withI_lt (n := 10) h1 h2 this.1 (by omega))
theorem neTo2_bd (pre : List Lo) : 0 ≤ neTo2 pre ∧ neTo2 pre < 1024 := by
  have h := fold_with_bd pre 0 (Int.le_refl _) (by decide)
  have h8 : (2 : Int) ^ 10 = 1024 := by decide
  unfold neTo2; omega
set_option maxRecDepth 100000 in
set_option maxHeartbeats 2000000 in
theorem neededLifts_yes (A : Option Addr) (n c : Nat) (ps : List Lift) (vs : List LV) (hv : ps.map Lift.val = vs) (k : Nat) (w : World) (lo : Nat) (h : Lifts w lo w.heap.size A n ps) (hn : n ≤ 1048576) (hp : ∀ p ∈ ps, p.wf) (hf : lfCode vs (k : Int) = 0) :
    Calls Try.prog 28 #[.slice A n c, .int .i64 (k : Int)] w fun e w' => e = .returned (.tuple #[.int .i64 (neN vs k), .int .i64 (lfCode vs k)]) ∧ Below w.heap.size w w' := by
  have HV := Lib.hid hv
  have HP := Lib.hid hp
  have HC := Lib.hid h
  have HL : Hid (vs.length = n) := by show _ = _; rw [lv_len hv, h.len]
  have hl := h.len
  have HF := Lib.hid hf
  obtain ⟨hok, hk0, hk1⟩ := lfCode_ok hf
  have hn10 := liftsOk_len hok
  rw [HL.out] at hk1 hn10
  have HOK := Lib.hid hok
  have HD := Lib.hid (down_of hok)
  have HN := Lib.hid (neN_ok HF.out)
  have hnd := nd_small HD.out (k := k) (by omega)
  clear hv hp h hf hok
  refine (callsIn_wide (n := 5)).1 ?_
  have hro : Fence.wide.round = none := rfl
  refine callsIn_of_wp_marks Try.func28 rfl trivial ?_ hro
  simp only [Try.ntmps28, List.size_toArray, List.length_cons, List.length_nil, Nat.reduceAdd, Nat.reduceSub, Array.replicate_succ, Array.replicate_zero, List.push_toArray, List.append_toArray, List.nil_append, List.cons_append]
  gi_wp2_with fail
  refine ⟨trivial, ?_⟩
  refine (callsIn_wide.2 (liftCode_any A n c ps vs HV.out k _ lo HC.out hn HP.out)).mono ?_
  rintro e w1 ⟨rfl, hb1⟩
  rw [HF.out]
  have HC1 := Lib.hid (HC.out.next hb1)
  have hs1 := hb1.size
  have hmm := @run_makeMap Try.prog
  gi_wp2_with fail
  clear hmm
  refine ⟨trivial, ?_⟩
  obtain ⟨W1, hW1⟩ : ∃ W1, W1 = w1.alloc (.map #[] 0) := ⟨_, rfl⟩
  have hbm : Below w1.heap.size w1 W1 := by rw [hW1]; exact (Below.refl _ _).alloc (Nat.le_refl _) _
  have hM0 : BSet Try.prog 2 4 W1 w1.heap.size 0 (fun _ => false) := by rw [hW1]; exact BSet.made w1
  have hC2 : Lifts W1 lo w1.heap.size A n ps := HC1.out.below hbm
  have hsm : w1.heap.size < W1.heap.size := hM0.lt
  rw [← hW1]
  clear hW1
  refine (callsIn_wide.2 (needed_any A n c ps vs HV.out HOK.out lo w1.heap.size w1.heap.size (Nat.le_refl _) hl (fun p hpp => (HP.out p hpp).n) k (by omega) W1 0 (fun _ => false) hC2 hM0 (fun x hx hs => by cases hs) (by have := tnN_le (k := k) (by omega); omega))).mono ?_
  rintro e w2 ⟨⟨v, rfl⟩, hM2, hwi2⟩
  have HM2 : Hid (BSet Try.prog 2 4 w2 w1.heap.size (0 + tnN k) (fun r => hasP (ndI vs k) r)) := hM2.to fun r => by simp
  have hs2 := hwi2.size
  have HB2 := Lib.hid (Below.within (hb1.trans (hbm.mono hs1)) hwi2 hs1 (by omega))
  clear hM2 hwi2 hM0 hC2 hbm
  gi_wp2_with fail
  refine ⟨trivial, ?_⟩
  refine (keys_in Fence.wide _ trivial hro _ _).mono ?_
  rintro e w3 ⟨rfl, hw3⟩
  gi_wp2_with fail
  have bO : Boxed w3 w2.heap.size 2 (.int .i64 0) := by rw [hw3]; exact (Boxed.new w2 2 _).alloc _
  have bS : Boxed w3 (w2.heap.size + 1) 142 (.map (some w1.heap.size)) := by
    rw [hw3]
    have := Boxed.new (w2.alloc (.cells #[.int .i64 0] 2)) 142 (.map (some w1.heap.size))
    rwa [World.size_alloc] at this
  have hbb : Below w2.heap.size w2 w3 := by rw [hw3]; exact ((Below.refl _ _).alloc (Nat.le_refl _) _).alloc (by simp) _
  have hsz : w3.heap.size = w2.heap.size + 2 := by rw [hw3]; simp
  rw [← hw3]
  clear hw3
  obtain ⟨D0, hown, htidy, hhas, _⟩ := HM2.out.bel hbb (by omega)
  have hB3 : Below w.heap.size w w3 := HB2.out.trans (hbb.mono (by have := HB2.out.size; omega))
  have hQ : ∀ x : Int, has D0 (.int .i64 x) = true → 0 ≤ x ∧ x < 10 := by
    intro x hx
    rw [hhas] at hx
    have h9 := ndI_bd HD.out k
    unfold hasP at hx
    rw [Bool.and_eq_true, decide_eq_true_eq] at hx
    refine ⟨hx.1, ?_⟩
    rcases Int.lt_or_le x 10 with h8 | h8
    · exact h8
    · exfalso
      have h5 : (2 : Nat) ^ 10 = 1024 := by decide
      have h7 : (ndI vs k).toNat < 2 ^ x.toNat := Nat.lt_of_lt_of_le (show (ndI vs k).toNat < 2 ^ 10 by omega) (Nat.pow_le_pow_right (by omega) (by omega))
      have h6 := Nat.testBit_lt_two_pow h7
      unfold hasI at hx
      rw [h6] at hx; cases hx.2
  clear HM2
  refine wpIn_rangeFunc_ownF hro (by omega : 1 ≤ 5) (gf := 173) (lb := #[.pointer (some ⟨w2.heap.size + 1, 0, none⟩)]) rfl trivial (enters_of Try.func173 (by kernel_rfl) rfl)
    (keys_stops Fence.wide (5 - 1) trivial hro (by omega) (w2.heap.size + 1) w1.heap.size _ D0 hQ w3 (by omega) bS.cell hown)
    walksK_t walksK_b (Below.refl _ _) (fun _ => rfl)
    (fun pre W => Boxed W w2.heap.size 2 (.int .i64 (neTo2 pre)) ∧ Below w.heap.size w W)
    (fun _ _ _ => False)
    (OwnFrom.and (Go.Own.from (boxed_own w2.heap.size 2 (fun pre => .int .i64 (neTo2 pre))) _) (ownFrom_below (Nat.le_refl _) (by have := hB3.size; omega)))
    (fun _ _ _ _ _ hs _ _ => hs)
    ⟨bO, hB3⟩
    (fun x => { tmps := #[.slice A n c, .int .i64 (k : Int), undef, undef, .int .i64 0, .int .i64 0, .int .i64 0, .map (some w1.heap.size), .pointer (some ⟨w2.heap.size, 0, none⟩), .int .i64 x.1, .slice A n c, .int .i64 (k : Int), .int .i64 0, .int .i64 0, .bool false, undef, .map (some w1.heap.size), .slice A n c, .int .i64 (k : Int), .map (some w1.heap.size), v, .map (some w1.heap.size), .func (.func 173) #[] #[.pointer (some ⟨w2.heap.size + 1, 0, none⟩)], .int .i64 x.1, undef, undef, undef, undef, undef, undef], defers := [] })
    ?assign ?body ?done ?stop
  case assign =>
    intro l x W K hK
    gi_wp2
    exact hK
  case body =>
    rintro l pre x W ⟨hbx, hbw⟩ hlt
    have hc := hbx.cell
    have hfz := hbx.frozen
    have hb1 := neTo2_bd pre
    obtain ⟨x, hx0, hx1⟩ := x
    obtain ⟨a, rfl⟩ := Int.eq_ofNat_of_zero_le hx0
    have hpb := pow_b2 (n := a) (by omega)
    have HOR : Hid (bits .or .i64 (neTo2 pre) (2 ^ a) = withI (neTo2 pre) a) := by have h9 := or_shl (neTo2 pre) a hb1.1 (by omega) (by omega) (by omega); rwa [Int.toNat_natCast] at h9
    have hs9 := hB3.size
    have HS : Hid (neTo2 (pre ++ [⟨(a : Int), hx0, hx1⟩]) = withI (neTo2 pre) a) := neTo2_snoc _ _
    dsimp only
    gi_wp2
    refine ⟨KeepsOthers.setCell _ _ _, KeepsWalks.setCell _ _ _, ?_, hbw.setCell (by show _ ≤ w2.heap.size; omega) _⟩
    rw [HS.out, HOR.out]
    exact hbx.set _
  case done =>
    rintro D ys W hD hmem ⟨hbx, hbw⟩ hK
    have hc := hbx.cell
    have HE : Hid (neTo2 ys = ndI vs k) := by
      show _ = _
      unfold neTo2
      exact keys_or hnd.1 (fun x hx => by obtain ⟨y, _, rfl⟩ := List.mem_map.1 hx; exact y.2.1) (fun r => by rw [hmem r, hhas])
    rw [HE.out] at hc
    have hs9 := hB3.size
    gi_wp2
    refine ⟨by simp, .inl ⟨_, _, rfl, run_takeDeferred hK, ?_⟩⟩
    refine ⟨_, results_tmp2 rfl _ _ _, ?_⟩
    refine ⟨by rw [HN.out, HF.out]; rfl, ?_⟩
    exact hbw.trans (belowK_b (w := w) (Nat.le_refl _) W D _ (.deferred none) (by omega) hK rfl rfl)
  case stop =>
    rintro D c pre W _ _ h _
    exact h.elim

set_option maxRecDepth 100000 in
set_option maxHeartbeats 1600000 in
theorem neededLifts_any (A : Option Addr) (n c : Nat) (ps : List Lift) (vs : List LV) (hv : ps.map Lift.val = vs) (kk : Int) (w : World) (lo : Nat) (h : Lifts w lo w.heap.size A n ps) (hn : n ≤ 1048576) (hp : ∀ p ∈ ps, p.wf) :
    Calls Try.prog 28 #[.slice A n c, .int .i64 kk] w fun e w' => e = .returned (.tuple #[.int .i64 (neN vs kk), .int .i64 (lfCode vs kk)]) ∧ Below w.heap.size w w' := by
  by_cases hf : lfCode vs kk = 0
  · obtain ⟨hok, hk0, hk1⟩ := lfCode_ok hf
    obtain ⟨k, rfl⟩ := Int.eq_ofNat_of_zero_le hk0
    exact neededLifts_yes A n c ps vs hv k w lo h hn hp hf
  · have HF := Lib.hid (neN_bad hf)
    have HN : Hid ((lfCode vs kk == 0) = false) := beq_eq_false_iff_ne.2 hf
    have HV := Lib.hid hv
    have HP := Lib.hid hp
    have HC := Lib.hid h
    clear hf hv hp h
    go_enter Try.func28, Try.ntmps28
    go_wp2_with fail
    refine (liftCode_any A n c ps vs HV.out kk w lo HC.out hn HP.out).mono ?_
    rintro e w1 ⟨rfl, hb1⟩
    have HNN := HN.out
    go_wp2
    go_ret2
    exact ⟨by rw [HF.out]; rfl, hb1⟩
end Go.Proofs.Ytbklbhbjlbojdaa
