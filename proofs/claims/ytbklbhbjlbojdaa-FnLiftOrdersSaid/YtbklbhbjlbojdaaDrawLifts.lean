/- The reference's drawn lifts: at most six valid ones, with names of their own. -/
import Derived.Test.YtbklbhbjlbojdaaDrawOne
import Derived.Test.YtbklbhbjlbojdaaSegs
namespace Go.Proofs.Ytbklbhbjlbojdaa
open Go.RowKit
set_option linter.unusedVariables false

def nmCells : Array Value := #[.string ⟨#[97]⟩, .string ⟨#[98]⟩, .string ⟨#[99]⟩, .string ⟨#[100]⟩, .string ⟨#[101]⟩, .string ⟨#[102]⟩, .string ⟨#[103]⟩, .string ⟨#[104]⟩, .string ⟨#[105]⟩, .string ⟨#[106]⟩, .string ⟨#[107]⟩]
theorem l08Names_any (w : World) :
    Calls Try.prog 226 #[] w fun e w' => e = .returned (.slice (some ⟨w.heap.size, 0, none⟩) 11 11) ∧ w' = w.alloc (.cells nmCells 9) := by
  go_enter Try.func226, Try.ntmps226
  go_wp2
  go_ret
  exact ⟨rfl, rfl⟩
theorem nm_at {w : World} {q : Nat} (h : Blk w q 9 nmCells) : ∀ i, i < 11 → ∃ s, ns[i]? = some s ∧ w.cell? ⟨q, i, none⟩ = some (.string s) := by
  intro i hi
  rw [h.cell]
  match i, hi with
  | 0, _ => exact ⟨_, rfl, rfl⟩
  | 1, _ => exact ⟨_, rfl, rfl⟩
  | 2, _ => exact ⟨_, rfl, rfl⟩
  | 3, _ => exact ⟨_, rfl, rfl⟩
  | 4, _ => exact ⟨_, rfl, rfl⟩
  | 5, _ => exact ⟨_, rfl, rfl⟩
  | 6, _ => exact ⟨_, rfl, rfl⟩
  | 7, _ => exact ⟨_, rfl, rfl⟩
  | 8, _ => exact ⟨_, rfl, rfl⟩
  | 9, _ => exact ⟨_, rfl, rfl⟩
  | 10, _ => exact ⟨_, rfl, rfl⟩
theorem Blk.kept {β : Type} {d : β → List Value} {j : Nat} {w w' : World} {base : Nat} {t e : TypeId} {g : Nat} {cs : Array Value} {v : Value} {ys : List β} (h : Blk w g t cs) (ht : t ≠ e) (hg : Grow d j w base e v ys) (hgr : w.grownBy w' v.ownBlock) : Blk w' g t cs := by
  refine (hgr.block g (heap_lt h) ?_).trans h
  rcases hg.2 with ⟨rfl, _⟩ | ⟨g', cap, cur, rfl, _, hgb, _⟩
  · simp [Value.ownBlock]
  · intro e'
    obtain rfl : g = g' := by simpa [Value.ownBlock] using e'
    have := Eq.symm h |>.trans hgb
    simp at this
    exact ht this.2
theorem Grow.within {α : Type} {c : α → List Value} {k : Nat} {a w w' : World} {l r lo : Nat} {e : TypeId} {v : Value} {xs : List α} (h : Grow c k w lo e v xs) (hb : Within l r a w) (hg : w.grownBy w' v.ownBlock) (hB : a.heap.size ≤ lo) : Within l r a w' :=
  ⟨hg.os.trans hb.os, hg.tape.trans hb.tape, hg.output.trans hb.output, Nat.le_trans hb.size hg.size, fun q hq ho => (hg.block q (by have := hb.size; omega) (fun e9 => by have := h.lt q e9.symm; omega)).trans (hb.block q hq ho)⟩
theorem Grow.slice {α : Type} {c : α → List Value} {k : Nat} {w : World} {lo : Nat} {e : TypeId} {v : Value} {xs : List α} (h : Grow c k w lo e v xs) : ∃ A cap, v = .slice A xs.length cap ∧ xs.length ≤ cap ∧ cap ≤ 9223372036854775807 := by
  rcases h.2 with ⟨rfl, h0⟩ | ⟨g, cap, cs, rfl, h1, h2, h3, h4, h5, h6⟩
  · exact ⟨none, 0, by rw [h0], by omega, by omega⟩
  · exact ⟨_, cap, rfl, h3, by unfold maxLen at h4; omega⟩
/-- a lift that has been drawn, its row in memory from W0 on -/
structure DrawnIn (w : World) (W0 : Nat) (q : Lift) : Prop where
  row : Own ic 1 w W0 w.heap.size 2 q.r.a q.r.n q.r.xs
  head : Headed q.r
  len : q.r.n ≤ 6
  wf : q.wf
theorem Drawn.wf {w w' : World} {i : Nat} {name : ByteArray} {p : Lift} (h : Drawn w w' i name p) (hn : name.size ≤ 1) (hi : i ≤ 6) : p.wf := by
  obtain ⟨h1, h2, h3, h4, h5, h6, h7⟩ := h
  exact ⟨⟨by rw [h1]; omega, by omega, by omega, by omega, by omega, by omega, by omega, by omega⟩, by omega, trivial⟩
theorem Drawn.good {w w' : World} {i : Nat} {name : ByteArray} {p : Lift} (h : Drawn w w' i name p) (hn : ns[i]? = some name) : GoodV i p.val := by
  obtain ⟨h1, h2, h3, h4, h5, h6, h7⟩ := h
  have hok : nmOk p.v.name = true := by rw [h1]; exact ns_ok _ (List.mem_of_getElem? hn)
  refine ⟨?_, h4, by show _ = some p.v.name; rw [h1]; exact hn⟩
  show plainB p.v = true
  unfold plainB plcB
  rw [hok, inB_true.2 (show 1 ≤ p.v.weight ∧ p.v.weight ≤ 50000 by omega), inB_true.2 (show -10000 ≤ p.v.fx ∧ p.v.fx ≤ 10000 by omega), inB_true.2 (show -10000 ≤ p.v.fy ∧ p.v.fy ≤ 10000 by omega), inB_true.2 (show -10000 ≤ p.v.tx ∧ p.v.tx ≤ 10000 by omega), inB_true.2 (show -10000 ≤ p.v.ty ∧ p.v.ty ≤ 10000 by omega), inB_true.2 (show 0 ≤ p.v.height ∧ p.v.height ≤ 2000 by omega), inB_true.2 (show 1 ≤ p.v.deadline ∧ p.v.deadline ≤ 1000000 by omega)]
  rfl
/-- lifts that have been drawn: a slice value, its lifts in memory from W0 on -/
def DrawnAll (w : World) (W0 : Nat) (e : Ending) (w' : World) : Prop :=
  ∃ v ps, e = .returned v ∧ Grow Lift.cs 9 w' W0 36 v ps ∧ Good (ps.map Lift.val) ∧ ps.length ≤ 6 ∧ ∀ q ∈ ps, DrawnIn w' W0 q
set_option maxRecDepth 100000 in
set_option maxHeartbeats 3200000 in
theorem l08Draw_any (g B : Nat) (A : Option Addr) (n : Nat) (xs : List Int) (m : Nat) (hm : m ≤ 700000) (hn : n ≤ 1000000) (w : World) (h : Src w g B A n xs m) :
    Calls Try.prog 164 #[.pointer (some ⟨g, 0, none⟩), .int .i64 6] w fun e w' => DrawnAll w w.heap.size e w' ∧ Within g (g + 1) w w' := by
  have hg := h.lt
  obtain ⟨W, hW⟩ : ∃ W : World, W = w.alloc (.cells #[] 36) := ⟨_, rfl⟩
  have hb : Below w.heap.size w W := by rw [hW]; exact (Below.refl _ _).alloc (Nat.le_refl _) _
  have hG : Grow Lift.cs 9 W w.heap.size 36 (.slice (some ⟨w.heap.size, 0, none⟩) 0 0) [] := by rw [hW]; exact Grow.empty _ _ _ (Nat.le_refl _)
  have hwb : Within g (g + 1) w W := .of_below _ _ hb
  have hWs : W.heap.size = w.heap.size + 1 := by rw [hW]; simp
  go_enter Try.func164, Try.ntmps164
  go_wp2_with fail
  rw [← hW]
  clear hW
  refine (l08Names_any W).mono ?_
  rintro e w1 ⟨rfl, hw1⟩
  have hb1 : Below W.heap.size W w1 := by rw [hw1]; exact (Below.refl _ _).alloc (Nat.le_refl _) _
  have hN1 : Blk w1 W.heap.size 9 nmCells := by rw [hw1]; exact Blk.new _ _ _
  have hG1 := hG.bel hb1
  have hS1 := (h.bel hb).bel hb1
  have hwt1 := hwb.trans (.of_below _ _ hb1)
  have hz1 := hN1.lt
  obtain ⟨q, hq⟩ : ∃ q, W.heap.size = q := ⟨_, rfl⟩
  rw [hq] at hN1 hz1 ⊢
  clear hw1 hb1 hG hwb hb h
  have hgq : g ≠ q := by omega
  go_wp2_with fail
  refine (pick_any g B A n xs m (by omega) hn 7 (by omega) (by omega) w1 hS1).mono ?_
  rintro e w2 ⟨k0, rfl, hk0, hk1, hS2, hw2⟩
  obtain ⟨K, rfl⟩ := Int.eq_ofNat_of_zero_le hk0
  have hK : K ≤ 6 := by omega
  have hN2 := hN1.after hw2 hgq
  have hG2 := hG1.far2 hw2 (by omega)
  have hwt2 := hwt1.trans hw2
  have HN2 := Lib.hid hN2
  have HG2 := Lib.hid hG2
  have HS2 := Lib.hid hS2
  have HT2 := Lib.hid hwt2
  clear hN2 hG2 hS2 hwt2 hN1 hG1 hS1 hwt1 hw2 hk0 hk1
  go_wp2
  go_loopw [5, 7] (fun v kv wr => ∃ (k : Nat) (out : List Lift), out.length + k = K ∧ kv = .int .i64 k ∧ Grow Lift.cs 9 wr w.heap.size 36 v out ∧ Good (out.map Lift.val) ∧ (∀ p ∈ out, DrawnIn wr w.heap.size p) ∧ Blk wr q 9 nmCells ∧ Src wr g B A n xs (m + 2 + 30 * out.length) ∧ Within g (g + 1) w wr) (fun _ kv _ => (intOf kv).toNat)
  case atStart => exact ⟨K, [], by simp, rfl, HG2.out, good_nil, fun p hp => (by cases hp), HN2.out, HS2.out.more (by omega), HT2.out⟩
  case round =>
    obtain ⟨k, out, hk, rfl, hgr, hgood, hown, hNb, hsr, hwr⟩ := hrel
    have hol : out.length ≤ 6 := by omega
    by_cases hlt : 0 < k
    · obtain ⟨A', cap, rfl, hc1, hc2⟩ := hgr.slice
      obtain ⟨s, hs, hcell⟩ := nm_at hNb out.length (by omega)
      have hss := ns_size s (List.mem_of_getElem? hs)
      have HS := Lib.hid hs
      have HG := Lib.hid hgr
      have HGD := Lib.hid hgood
      have HO := Lib.hid hown
      have HN := Lib.hid hNb
      have HW := Lib.hid hwr
      have hk1 : (0 : Int) < (k : Int) := by omega
      have hl0 : (0 : Int) ≤ (out.length : Int) := by omega
      have hl1 : (out.length : Int) < 11 := by omega
      clear hs hgr hgood hown hNb hwr HN2 HG2 HS2 HT2
      go_wp2_with fail
      refine (l08DrawOne_any g B A n xs (m + 2 + 30 * out.length) (by omega) hn out.length hol s hss wr hsr).mono ?_
      rintro e w3 ⟨p, rfl, hp, hS3, hw3⟩
      have hz := HW.out.size
      have hz3 := hw3.size
      have HD := Lib.hid hp
      have hG3 := Grow.far2 HG.out hw3 (by omega)
      have hN3 := HN.out.after hw3 hgq
      have hO3 : ∀ u ∈ out, DrawnIn w3 w.heap.size u := fun u hu => by
        obtain ⟨u1, u2, u3, u4⟩ := HO.out u hu
        exact ⟨(u1.within hw3 (.inr (by omega))).wide (Nat.le_refl _) hz3, u2, u3, u4⟩
      have hwt3 := HW.out.trans hw3
      obtain ⟨W4, hW4⟩ : ∃ W4 : World, W4 = w3.alloc (.cells #[.string p.v.name, .int .i64 p.v.weight, .int .i64 p.v.fx, .int .i64 p.v.fy, .int .i64 p.v.tx, .int .i64 p.v.ty, .int .i64 p.v.height, .int .i64 p.v.deadline, .slice p.r.a p.r.n p.r.cap] 36) := ⟨_, rfl⟩
      have hb4 : Below w3.heap.size w3 W4 := by rw [hW4]; exact (Below.refl _ _).alloc (Nat.le_refl _) _
      have hz4 : W4.heap.size = w3.heap.size + 1 := by rw [hW4]; simp
      have HW4 := Lib.hid hW4
      have HG4 := Lib.hid (hG3.bel hb4)
      have HN4 := Lib.hid (hN3.bel hb4)
      have HS4 := Lib.hid (hS3.bel hb4)
      have HT4 := Lib.hid (hwt3.trans (.of_below _ _ hb4))
      have HO4 : Hid (∀ u ∈ out ++ [p], DrawnIn W4 w.heap.size u) := fun u hu => by
        rcases List.mem_append.1 hu with hu | hu
        · obtain ⟨u1, u2, u3, u4⟩ := hO3 u hu
          exact ⟨(u1.bel hb4).wide (Nat.le_refl _) (by omega), u2, u3, u4⟩
        · rw [List.mem_singleton] at hu; subst hu
          exact ⟨(hp.row.bel hb4).wide hz (by omega), hp.head, by have := hp.len; omega, hp.wf hss hol⟩
      clear hp hG3 hN3 hS3 hO3 hwt3 hw3 hb4 hW4
      go_wp2_with (at_builtin; rw [← HW4.out]; refine wpList_snoc _ rfl _ _ 30 rfl w.heap.size 36 _ _ Try.underlying30 LiftInfo rfl (by omega) _ out p rfl HG4.out _ _ rfl (by rw [HW4.out]; exact heap_new_at _ _ (by simp)) rfl rfl (Lift.cs_one _) (by omega) (by omega) (by omega) ?_; intro v' w5 hg5 hgr5)
      have hz5 := hgr5.size
      have HN5 := Lib.hid (HN4.out.kept (by decide) HG4.out hgr5)
      have HS5 := Lib.hid (HS4.out.grown hgr5 (fun u e9 => by have := HG4.out.lt u e9; omega))
      have HT5 := Lib.hid (HG4.out.within HT4.out hgr5 (Nat.le_refl _))
      have HO5 : Hid (∀ u ∈ out ++ [p], DrawnIn w5 w.heap.size u) := fun u hu => by
        obtain ⟨u1, u2, u3, u4⟩ := HO4.out u hu
        exact ⟨(Own.kept u1 (by decide) HG4.out hgr5).wide (Nat.le_refl _) hz5, u2, u3, u4⟩
      have HGD5 : Hid (Good ((out ++ [p]).map Lift.val)) := by
        show Good _
        rw [List.map_append]
        exact good_snoc HGD.out (by rw [List.length_map]; exact HD.out.good HS.out)
      have HG5 := Lib.hid hg5
      clear hg5 hgr5
      go_roundw
      case rel => exact ⟨k - 1, out ++ [p], by simp; omega, by go_num, HG5.out, HGD5.out, HO5.out, HN5.out, HS5.out.more (by simp; omega), HT5.out⟩
      case measure => simp [intOf]; omega
    · obtain rfl : k = 0 := by omega
      go_wp2
      go_ret
      exact ⟨⟨_, out, rfl, hgr, hgood, hol, hown⟩, hwr⟩
/-- what A2Lifts hands back -/
def LiftsA2 (w : World) (e : Ending) (w' : World) : Prop :=
  ∃ A c ps, e = .returned (.slice A ps.length c) ∧ Good (ps.map Lift.val) ∧ ps.length ≤ 6 ∧ ps.length ≤ c ∧ c ≤ 9223372036854775807 ∧ Lifts w' w.heap.size w'.heap.size A ps.length ps ∧ (∀ p ∈ ps, Headed p.r ∧ p.r.n ≤ 6 ∧ p.wf) ∧ Below w.heap.size w w'
set_option maxHeartbeats 800000 in
theorem a2Lifts_any (A : Option Addr) (n c : Nat) (xs : List Int) (w : World) (h : Arr bc 1 w 0 w.heap.size A n xs) (hx : ∀ x ∈ xs, 0 ≤ x ∧ x ≤ 255) (hn : n ≤ 1000000) :
    Calls Try.prog 77 #[.slice A n c] w (LiftsA2 w) := by
  go_enter Try.func77, Try.ntmps77
  go_wp2_with fail
  refine (l00From_any A n c w).mono ?_
  rintro e w1 ⟨rfl, hw1⟩
  have hb1 : Below w.heap.size w w1 := by rw [hw1]; exact (Below.refl _ _).alloc (Nat.le_refl _) _
  have hS : Src w1 w.heap.size w.heap.size A n xs 0 := ⟨c, 0, 0, Nat.le_refl _, by omega, by omega, by rw [hw1]; exact Blk.new _ _ _, h.below hb1, hx, by omega⟩
  have hz := hS.lt
  clear hw1
  go_wp2_with fail
  refine (l08Draw_any w.heap.size w.heap.size A n xs 0 (by omega) hn w1 hS).mono ?_
  rintro e w2 ⟨⟨v, ps, rfl, hgr, hgood, hl, hown⟩, hw2⟩
  obtain ⟨A', cap, hv0, hc1, hc2⟩ := hgr.slice
  obtain ⟨A2, cap2, rfl, ho⟩ := hgr.own Lift.cs_len
  injection hv0 with e1 e2 e3
  subst e1
  subst e3
  have HF : Hid (LiftsA2 w (.returned (.slice A2 ps.length cap2)) w2) := ⟨A2, cap2, ps, rfl, hgood, hl, hc1, hc2, ⟨(ho.wide (by omega) (Nat.le_refl _)).arr Lift.cs_len, fun p hp => ((hown p hp).row.wide (by omega) (Nat.le_refl _)).arr ic_len⟩, fun p hp => ⟨(hown p hp).head, (hown p hp).len, (hown p hp).wf⟩, Below.within hb1 hw2 (Nat.le_refl _) (by omega)⟩
  clear hgr hgood hown ho hw2
  go_wp2
  go_ret
  exact HF.out
end Go.Proofs.Ytbklbhbjlbojdaa
