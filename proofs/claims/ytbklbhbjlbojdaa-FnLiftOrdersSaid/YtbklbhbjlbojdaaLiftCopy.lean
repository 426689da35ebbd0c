/- Copies of lifts, of the reference: l00Own and l08Copy. -/
import Derived.Test.YtbklbhbjlbojdaaRLift
import Derived.Test.YtbklbhbjlbojdaaGrow2
import Derived.Test.YtbklbhbjlbojdaaFind
import Derived.Laws.AppendOwnNone
namespace Go.Proofs.Ytbklbhbjlbojdaa
open Go.RowKit
set_option linter.unusedVariables false

def CloneG (xs : List Int) (w : World) (e : Ending) (w' : World) : Prop :=
  ∃ v, e = .returned v ∧ Grow ic 1 w' w.heap.size 2 v xs ∧ Below w.heap.size w w'
set_option maxHeartbeats 800000 in
theorem l00Own_some (a : Addr) (n c : Nat) (xs : List Int) (w : World) (lo : Nat) (h : Arr ic 1 w lo w.heap.size (some a) n xs) (hn : n ≤ 1048576) :
    Calls Try.prog 83 #[.slice (some a) n c] w (CloneG xs w) := by
  have hl := h.1
  go_enter Try.func83, Try.ntmps83
  go_wp2_with (at_builtin; refine wpList_join _ rfl _ _ 25 rfl w.heap.size 2 (.int .i64 0) 8 Try.underlying25 infoInt rfl (by omega) _ [] xs rfl (Grow.empty _ _ _ (Nat.le_refl _)) a n c rfl lo w.heap.size (h.below ((Below.refl _ _).alloc (Nat.le_refl _) _)) ic_len ic_one (by simp; omega) (by omega) (by simp) ?_; intro v' w5 hg5 hgr5)
  go_wp2
  go_ret
  exact ⟨v', rfl, hg5, ((Below.refl _ _).alloc (Nat.le_refl _) _).grown hgr5 (by simp) (fun j hj => by have := ownBlock_eq hj; omega)⟩
theorem Own.kept {α β : Type} {c : α → List Value} {d : β → List Value} {k j : Nat} {w w' : World} {lo hi base : Nat} {t e : TypeId} {A : Option Addr} {n : Nat} {xs : List α} {v : Value} {ys : List β} (h : Own c k w lo hi t A n xs) (ht : t ≠ e) (hg : Grow d j w base e v ys) (hgr : w.grownBy w' v.ownBlock) : Own c k w' lo hi t A n xs :=
  ⟨h.1, fun hn => by
    obtain ⟨g, cs, e1, h1, h0, h2, h3, h4⟩ := h.2 hn
    refine ⟨g, cs, e1, h1, h0, (hgr.block g (heap_lt h2) ?_).trans h2, h3, h4⟩
    rcases hg.2 with ⟨rfl, _⟩ | ⟨g', cap, cur, rfl, _, hgb, _⟩
    · simp [Value.ownBlock]
    · intro e'
      obtain rfl : g = g' := by simpa [Value.ownBlock] using e'
      have := h2.symm.trans hgb
      simp at this
      exact ht this.2⟩
def CopiedLifts (ps : List Lift) (w : World) (v : Value) (w' : World) : Prop :=
  ∃ ps', Grow Lift.cs 9 w' w.heap.size 36 v ps' ∧ ps'.map Lift.val = ps.map Lift.val ∧ (∀ q ∈ ps', Own ic 1 w' w.heap.size w'.heap.size 2 q.r.a q.r.n q.r.xs) ∧ Below w.heap.size w w'
set_option maxRecDepth 100000 in
set_option maxHeartbeats 3200000 in
theorem l08Copy_any (A : Option Addr) (n c : Nat) (ps : List Lift) (w : World) (lo : Nat) (h : Lifts w lo w.heap.size A n ps) (hn : n ≤ 1048576) (hp : ∀ p ∈ ps, p.r.n ≤ 1048576) (ha : ∀ p ∈ ps, ∃ a, p.r.a = some a) :
    Calls Try.prog 82 #[.slice A n c] w fun e w' => ∃ v, e = .returned v ∧ CopiedLifts ps w v w' := by
  have HP := Lib.hid hp
  have HA := Lib.hid ha
  have HL := Lib.hid h.len
  have HH := Lib.hid h
  clear hp h ha
  go_enter Try.func82, Try.ntmps82
  go_wp2
  go_loopw [3, 4] (fun v i wr => ∃ (k : Nat) (out : List Lift), k ≤ n ∧ i = .int .i64 k ∧ Grow Lift.cs 9 wr w.heap.size 36 v out ∧ out.map Lift.val = (ps.map Lift.val).take k ∧ (∀ q ∈ out, Own ic 1 wr w.heap.size wr.heap.size 2 q.r.a q.r.n q.r.xs) ∧ Below w.heap.size w wr) (fun _ i _ => n - (intOf i).toNat)
  case atStart => exact ⟨0, [], Nat.zero_le _, rfl, Grow.empty _ _ _ (Nat.le_refl _), by simp, fun q hq => (by cases hq), (Below.refl _ _).alloc (Nat.le_refl _) _⟩
  case round =>
    obtain ⟨k, out, hk, rfl, hgr, hval, hown, hbw⟩ := hrel
    have hol : out.length = k := by
      have := congrArg List.length hval
      rw [List.length_map, List.length_take, List.length_map, HL.out] at this; omega
    by_cases hlt : k < n
    · obtain ⟨b, off, p, eA, hx, _, hbl, hrow, c0, c1, c2, c3, c4, c5, c6, c7, c8⟩ := Lift.at (HH.out.below hbw) hlt
      have hmem := List.mem_of_getElem? hx
      have hrn := HP.out p hmem
      obtain ⟨a, ea⟩ := HA.out p hmem
      have hsz := hbw.size
      have hblw : b < wr.heap.size := by omega
      rw [ea] at c8 hrow
      have HX := Lib.hid hx
      have HG := Lib.hid hgr
      have HV := Lib.hid hval
      have HO := Lib.hid hown
      have HW := Lib.hid hbw
      have hk0 : (0 : Int) ≤ (k : Int) := by omega
      have hk1 : (k : Int) < (n : Int) := by omega
      obtain ⟨W1, hW1⟩ : ∃ W1 : World, W1 = wr.alloc (.cells #[.string p.v.name, .int .i64 p.v.weight, .int .i64 p.v.fx, .int .i64 p.v.fy, .int .i64 p.v.tx, .int .i64 p.v.ty, .int .i64 p.v.height, .int .i64 p.v.deadline, .slice (some a) p.r.n p.r.cap] 36) := ⟨_, rfl⟩
      have hb1 : Below wr.heap.size wr W1 := by rw [hW1]; exact (Below.refl _ _).alloc (Nat.le_refl _) _
      have Q1 : Blk W1 wr.heap.size 36 #[.string p.v.name, .int .i64 p.v.weight, .int .i64 p.v.fx, .int .i64 p.v.fy, .int .i64 p.v.tx, .int .i64 p.v.ty, .int .i64 p.v.height, .int .i64 p.v.deadline, .slice (some a) p.r.n p.r.cap] := by rw [hW1]; exact Blk.new _ _ _
      have hs1 : W1.heap.size = wr.heap.size + 1 := by rw [hW1]; simp
      have hrow1 := (hrow.more (hi' := wr.heap.size) hsz).below hb1 |>.more (hi' := W1.heap.size) (by omega)
      have HROW := Lib.hid hrow1
      clear hx hmem hgr hval hown hbw hrow hrow1
      go_wp2_with fail
      rw [← hW1]
      refine (l00Own_some a p.r.n p.r.cap p.r.xs W1 lo HROW.out hrn).mono ?_
      rintro e w2 ⟨v2, rfl, hg2, hb2⟩
      obtain ⟨A', c', rfl, ho2⟩ := hg2.own ic_len
      have hxl : p.r.xs.length = p.r.n := HROW.out.1
      rw [hxl] at ho2 ⊢
      have Q2 := Q1.bel hb2
      have hs2 := hb2.size
      have hblk := Q2.lt
      have f8 := Q2.frozen 8
      obtain ⟨e0, e1, e2, e3, e4, e5, e6, e7, e8⟩ := Lift.blk Q2
      have hB2 : Below wr.heap.size wr w2 := hb1.trans (hb2.mono (by omega))
      have HB2 := Lib.hid hB2
      have HO2 := Lib.hid ho2
      have Q3 : Hid (Blk (w2.setCell ⟨wr.heap.size, 8, none⟩ (.slice A' p.r.n c')) wr.heap.size 36 #[.string p.v.name, .int .i64 p.v.weight, .int .i64 p.v.fx, .int .i64 p.v.fy, .int .i64 p.v.tx, .int .i64 p.v.ty, .int .i64 p.v.height, .int .i64 p.v.deadline, .slice A' p.r.n c']) := Q2.set_lit (by simp)
      have HW3 := Lib.hid (hB2.setCell (p := ⟨wr.heap.size, 8, none⟩) (Nat.le_refl _) (.slice A' p.r.n c'))
      have HO3 := Lib.hid (ho2.within ((Within.refl wr.heap.size (wr.heap.size + 1) w2).setCell (p := ⟨wr.heap.size, 8, none⟩) (Nat.le_refl _) (Nat.lt_succ_self _) (.slice A' p.r.n c')) (.inr (by omega)))
      clear c0 c1 c2 c3 c4 c5 c6 c7 c8 Q1 hg2 hb2 hB2 ho2 hb1
      obtain ⟨W4, hW4⟩ : ∃ W4 : World, W4 = (w2.setCell ⟨wr.heap.size, 8, none⟩ (.slice A' p.r.n c')).alloc (.cells #[.string p.v.name, .int .i64 p.v.weight, .int .i64 p.v.fx, .int .i64 p.v.fy, .int .i64 p.v.tx, .int .i64 p.v.ty, .int .i64 p.v.height, .int .i64 p.v.deadline, .slice A' p.r.n c'] 36) := ⟨_, rfl⟩
      have HG4 : Hid (Grow Lift.cs 9 W4 w.heap.size 36 u3 out) := by show Grow _ _ _ _ _ _ _; rw [hW4]; exact (HG.out.bel HW3.out).alloc _
      have hba : Below (w2.setCell ⟨wr.heap.size, 8, none⟩ (.slice A' p.r.n c')).heap.size (w2.setCell ⟨wr.heap.size, 8, none⟩ (.slice A' p.r.n c')) W4 := by rw [hW4]; exact (Below.refl _ _).alloc (Nat.le_refl _) _
      have hB4 : Below wr.heap.size wr W4 := HW3.out.trans (hba.mono HW3.out.size)
      have HB4 := Lib.hid hB4
      have HO4 := Lib.hid (HO3.out.bel hba)
      have hs4 := hB4.size
      have hs5 : w2.heap.size ≤ W4.heap.size := by rw [hW4]; simp
      have HW4 := Lib.hid hW4
      clear hba hB4 hW4
      go_wp2_with (at_builtin; rw [← HW4.out]; refine wpList_snoc _ rfl _ _ 30 rfl w.heap.size 36 _ _ Try.underlying30 LiftInfo rfl (by omega) _ out (⟨p.v, ⟨A', p.r.n, c', p.r.xs⟩⟩ : Lift) rfl HG4.out _ _ rfl (by rw [HW4.out]; exact heap_new_at _ _ (by simp)) rfl rfl (Lift.cs_one _) (by omega) (by omega) (by omega) ?_; intro v' w5 hg5 hgr5)
      have hs6 := hgr5.size
      have HVV : Hid ((out ++ [(⟨p.v, ⟨A', p.r.n, c', p.r.xs⟩⟩ : Lift)]).map Lift.val = (ps.map Lift.val).take (k + 1)) := by
        show _ = _
        have e1 : (ps.map Lift.val)[k]? = some (Lift.val p) := by simp [HX.out]
        rw [List.map_append, HV.out, List.take_add_one, e1]; rfl
      have HOO : Hid (∀ q ∈ out ++ [(⟨p.v, ⟨A', p.r.n, c', p.r.xs⟩⟩ : Lift)], Own ic 1 w5 w.heap.size w5.heap.size 2 q.r.a q.r.n q.r.xs) := by
        intro q hq
        rcases List.mem_append.1 hq with hq | hq
        · exact (Own.kept ((HO.out q hq).bel HB4.out) (by decide) HG4.out hgr5).wide (Nat.le_refl _) (by omega)
        · rw [List.mem_singleton] at hq; subst hq
          exact (Own.kept HO4.out (by decide) HG4.out hgr5).wide (by omega) (by omega)
      have HBB : Hid (Below w.heap.size w w5) := HG4.out.below (HW.out.trans (HB4.out.mono hsz)) hgr5 (Nat.le_refl _) (by omega)
      have HGG := Lib.hid hg5
      clear hg5 hgr5
      try rw [← eA]
      go_roundw
      case rel => exact ⟨k + 1, _, by omega, by go_num, HGG.out, HVV.out, HOO.out, HBB.out⟩
      case measure => simp [intOf]; omega
    · obtain rfl : k = n := by omega
      go_wp2
      go_ret
      exact ⟨_, rfl, out, hgr, by rw [hval, List.take_of_length_le (by rw [List.length_map, HL.out]; exact Nat.le_refl _)], hown, hbw⟩
end Go.Proofs.Ytbklbhbjlbojdaa
