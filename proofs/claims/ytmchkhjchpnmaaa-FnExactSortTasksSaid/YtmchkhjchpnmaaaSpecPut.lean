/- l12Put of the reference puts a task into its place. -/
import Derived.Test.YtmchkhjchpnmaaaSrtLaw
import Derived.Test.YtmchkhjchpnmaaaValidTasks
import Derived.Test.YtmchkhjchpnmaaaFind
import Derived.Test.YtmchkhjchpnmaaaGrow2
import Derived.Test.YtmchkhjchpnmaaaSteps
namespace Go.Proofs.Ytmchkhjchpnmaaa
open Go.RowKit
set_option linter.unusedVariables false

theorem arr_drop {α : Type} {c : α → List Value} {k : Nat} {w : World} {lo hi b off n m : Nat} {xs : List α} (h : Arr c k w lo hi (some ⟨b, off, none⟩) n xs) (hm : m ≤ n) : Arr c k w lo hi (some ⟨b, off + m * k, none⟩) (n - m) (xs.drop m) := by
  refine ⟨by rw [List.length_drop, h.1], fun hn => ?_⟩
  obtain ⟨b', off', e, h1, h2, hc⟩ := h.2 (by omega)
  cases e
  refine ⟨b, off + m * k, rfl, h1, h2, fun i x hx j u hu => ?_⟩
  rw [List.getElem?_drop] at hx
  have := hc (m + i) x hx j u hu
  rw [show off + m * k + i * k + j = off + (m + i) * k + j by rw [Nat.add_mul]; omega]
  exact this

set_option maxRecDepth 100000 in
set_option maxHeartbeats 1600000 in
theorem l12Put_any (b off m c : Nat) (xs : List Task) (x : Task) (w : World) (lo : Nat) (h : Arr Task.cs 4 w lo w.heap.size (some ⟨b, off, none⟩) m xs) (hmc : m ≤ c) (hm : m ≤ 1048576) (hc : c ≤ 9223372036854775807) :
    Calls Try.prog 12 #[.slice (some ⟨b, off, none⟩) m c, .agg #[.int .i64 x.lift, .int .i64 x.crane, .int .i64 x.start, .int .i64 x.stop]] w fun e w' => ∃ v, e = .returned v ∧ Grow Task.cs 4 w' w.heap.size 34 v (putT x xs) ∧ Below w.heap.size w w' := by
  have hlen := Lib.hid h.1
  have HX := Lib.hid h
  go_enter Try.func12, Try.ntmps12
  go_wp2
  go_loopw [5] (fun v wr => ∃ k N : Nat, k ≤ m ∧ v = .int .i64 k ∧ putTo x xs m = putTo x xs k ∧ wr = (w.alloc (.cells #[.int .i64 x.lift, .int .i64 x.crane, .int .i64 x.start, .int .i64 x.stop] 34)).drewN N) (fun v _ => (intOf v).toNat)
  case atStart => exact ⟨m, 0, Nat.le_refl _, rfl, rfl, rfl⟩
  case round =>
    obtain ⟨k, N, hk, rfl, hp, hwr⟩ := hrel
    have HP := Lib.hid hp
    have hbN : Below w.heap.size w wr := by rw [hwr]; exact bel_drewN ((Below.refl _ _).alloc (Nat.le_refl _) _) N
    have hPN : Blk wr w.heap.size 34 #[.int .i64 x.lift, .int .i64 x.crane, .int .i64 x.start, .int .i64 x.stop] := by rw [hwr]; exact Blk.new _ _ _
    have hszN : w.heap.size < wr.heap.size := by rw [hwr]; simp
    have HW := Lib.hid hwr
    clear hp hwr
    rcases Nat.eq_zero_or_pos k with rfl | hk0
    · have HPK : Hid (putTo x xs m = 0) := HP.out
      have q0 := hPN.cell 0; have q1 := hPN.cell 1; have q2 := hPN.cell 2; have q3 := hPN.cell 3
      simp at q0 q1 q2 q3
      have hE := Grow.empty (c := Task.cs) (k := 4) wr (w.heap.size + 1) 34 (by omega)
      have hb5 : Below w.heap.size w (wr.alloc (.cells #[] 34)) := hbN.alloc (by omega) _
      have HE := Lib.hid hE
      clear hE
      go_wp2_with (first | (at_builtin; refine wpList_snoc _ rfl _ _ 24 rfl (w.heap.size + 1) 34 (.agg #[.int .i64 0, .int .i64 0, .int .i64 0, .int .i64 0]) 32 Try.underlying24 TaskInfo rfl (by omega) _ [] x rfl (HE.out.alloc _) _ _ rfl (heap_new_at _ _ (by simp)) rfl rfl (Task.cs_one _) (by first | omega | (simp; done) | (simp; omega) | (have := hlen.out; simp; omega) | (have h9 := HTL2.out; omega)) (by omega) (by first | omega | (simp; done) | (simp; omega) | (have := hlen.out; simp; omega) | (have h9 := HTL2.out; omega)) ?_; intro v6 w6 hg6 hgr6; obtain ⟨A6, cap6, hv6⟩ := hg6.form; (try rw [HTL2.out] at hv6); rw [hv6] at hg6 ⊢; have hs6 := hgr6.size; (try simp at hs6); have b6 : Below w.heap.size w w6 := (hb5.alloc (by first | omega | (simp; done) | (simp; omega) | (have := hlen.out; simp; omega) | (have h9 := HTL2.out; omega)) _).grown hgr6 (by first | omega | (simp; done) | (simp; omega) | (have := hlen.out; simp; omega) | (have h9 := HTL2.out; omega)) (fun j hj => by have := ownBlock_eq hj; omega); have H6 := Lib.hid hg6; have B6 := Lib.hid b6; have HL6 : ([] ++ [x]).length = _ := rfl; clear hg6 hgr6 b6) | (at_builtin; refine wpList_join _ rfl _ _ 24 rfl (w.heap.size + 1) 34 (.agg #[.int .i64 0, .int .i64 0, .int .i64 0, .int .i64 0]) 32 Try.underlying24 TaskInfo rfl (by omega) _ _ (xs.drop 0) rfl H6.out _ _ _ rfl lo w.heap.size (HX.out.below B6.out) Task.cs_len Task.cs_one (by first | omega | (simp; done) | (simp; omega) | (have := hlen.out; simp; omega) | (have h9 := HTL2.out; omega)) (by omega) (by omega) ?_; intro v7 w7 hg7 hgr7))
      go_ret
      refine ⟨v7, rfl, ?_, ?_⟩
      · unfold putT
        rw [hlen.out, HPK.out]
        have := hg7.less (lo' := w.heap.size) (Nat.le_succ _)
        simpa using this
      · exact B6.out.grown hgr7 (by omega) (fun j hj => by have := H6.out.lt j hj; omega)

    · obtain ⟨k', rfl⟩ : ∃ k', k = k' + 1 := ⟨k - 1, by omega⟩
      obtain ⟨b4, off4, y, e4, hy, _, _, d0, d1, d2, d3⟩ := Task.at (h.below hbN) (show k' < m by omega)
      cases e4
      have HY := Lib.hid hy
      have hk'0 : (0 : Int) ≤ (k' : Int) := by omega
      have hk'1 : (k' : Int) < (m : Int) := by omega
      have ew : IntKind.i64.wrap (k' : Int) = (k' : Int) := IntWalk.i64_in _ ⟨by omega, by omega⟩
      have q0 := hPN.cell 0; have q1 := hPN.cell 1; have q2 := hPN.cell 2
      simp at q0 q1 q2
      clear hy
      cases hc : befB x y
      · have HC := Lib.hid hc
        have hck : c ≠ k' + 1 ∨ c = k' + 1 := by omega
        have HPK : Hid (putTo x xs m = k' + 1) := by show _ = _; rw [HP.out, putTo_stop HY.out HC.out]
        have q3 := hPN.cell 3
        simp at q3
        have HTL : Hid (([] ++ xs.take (k' + 1)).length = k' + 1) := by show _ = _; have := hlen.out; simp; omega
        have HTL2 : Hid (([] ++ xs.take (k' + 1) ++ [x]).length = k' + 1 + 1) := by show _ = _; have := hlen.out; simp; omega
        rcases hck with hck | hck
        · go_wp2_with (first | (go_at_call 22; refine (l12Before_eq w.heap.size 0 b _ x y _ HC.out q0 q1 q2 d0 d1 d2).mono ?_; rintro e w4 ⟨rfl, N2, rfl⟩; have hb4 : Below w.heap.size w (wr.drewN N2) := bel_drewN hbN N2; have hP4 : Blk (wr.drewN N2) w.heap.size 34 #[.int .i64 x.lift, .int .i64 x.crane, .int .i64 x.start, .int .i64 x.stop] := hPN; have hs4 : w.heap.size < (wr.drewN N2).heap.size := hszN; generalize wr.drewN N2 = w4 at hb4 hP4 hs4 ⊢; have HB4 := Lib.hid hb4; have HP4 := Lib.hid hP4; clear hb4 hP4) | (at_builtin; refine wpList_join _ rfl _ _ 24 rfl (w.heap.size + 1) 34 (.agg #[.int .i64 0, .int .i64 0, .int .i64 0, .int .i64 0]) 32 Try.underlying24 TaskInfo rfl (by omega) _ [] (xs.take (k' + 1)) rfl (Grow.empty _ _ _ (by omega)) ⟨b, off, none⟩ (k' + 1) c rfl lo w.heap.size ((HX.out.below (HB4.out.alloc (by omega) _)).take (by omega)) Task.cs_len Task.cs_one (by first | omega | (simp; done) | (simp; omega) | (have := hlen.out; simp; omega) | (have h9 := HTL2.out; omega)) (by omega) (by first | omega | (simp; done) | (simp; omega) | (have := hlen.out; simp; omega) | (have h9 := HTL2.out; omega)) ?_; intro v5 w5 hg5 hgr5; obtain ⟨A5, cap5, hv5⟩ := hg5.form; rw [HTL.out] at hv5; rw [hv5] at hg5 ⊢; have hs5 := hgr5.size; (try simp at hs5); have hb5 : Below w.heap.size w w5 := (HB4.out.alloc (by omega) _).grown hgr5 (by first | omega | (simp; done) | (simp; omega) | (have := hlen.out; simp; omega) | (have h9 := HTL2.out; omega)) (fun j hj => by have := ownBlock_eq hj; omega); have P5 : Blk w5 w.heap.size 34 #[.int .i64 x.lift, .int .i64 x.crane, .int .i64 x.start, .int .i64 x.stop] := (HP4.out.alloc _).grown hgr5 (by intro hj; have := ownBlock_eq hj.symm; omega); have c50 := P5.cell 0; have c51 := P5.cell 1; have c52 := P5.cell 2; have c53 := P5.cell 3; simp at c50 c51 c52 c53; have H5 := Lib.hid hg5; clear hg5 hgr5 P5) | (at_builtin; refine wpList_snoc _ rfl _ _ 24 rfl (w.heap.size + 1) 34 (.agg #[.int .i64 0, .int .i64 0, .int .i64 0, .int .i64 0]) 32 Try.underlying24 TaskInfo rfl (by omega) _ ([] ++ xs.take (k' + 1)) x rfl (H5.out.alloc _) _ _ rfl (heap_new_at _ _ (by simp)) rfl rfl (Task.cs_one _) (by first | omega | (simp; done) | (simp; omega) | (have := hlen.out; simp; omega) | (have h9 := HTL2.out; omega)) (by omega) (by first | omega | (simp; done) | (simp; omega) | (have := hlen.out; simp; omega) | (have h9 := HTL2.out; omega)) ?_; intro v6 w6 hg6 hgr6; obtain ⟨A6, cap6, hv6⟩ := hg6.form; (try rw [HTL2.out] at hv6); rw [hv6] at hg6 ⊢; have hs6 := hgr6.size; (try simp at hs6); have b6 : Below w.heap.size w w6 := (hb5.alloc (by first | omega | (simp; done) | (simp; omega) | (have := hlen.out; simp; omega) | (have h9 := HTL2.out; omega)) _).grown hgr6 (by first | omega | (simp; done) | (simp; omega) | (have := hlen.out; simp; omega) | (have h9 := HTL2.out; omega)) (fun j hj => by have := H5.out.lt j hj; omega); have H6 := Lib.hid hg6; have B6 := Lib.hid b6; have HL6 : (([] ++ xs.take (k' + 1)) ++ [x]).length = _ := rfl; clear hg6 hgr6 b6) | (at_builtin; refine wpList_join _ rfl _ _ 24 rfl (w.heap.size + 1) 34 (.agg #[.int .i64 0, .int .i64 0, .int .i64 0, .int .i64 0]) 32 Try.underlying24 TaskInfo rfl (by omega) _ _ (xs.drop (k' + 1)) rfl H6.out _ _ _ rfl lo w.heap.size (arr_drop (HX.out.below B6.out) (by omega)) Task.cs_len Task.cs_one (by first | omega | (simp; done) | (simp; omega) | (have := hlen.out; simp; omega) | (have h9 := HTL2.out; omega)) (by omega) (by omega) ?_; intro v7 w7 hg7 hgr7))
          go_ret
          refine ⟨v7, rfl, ?_, ?_⟩
          · unfold putT
            rw [hlen.out, HPK.out]
            have := hg7.less (lo' := w.heap.size) (Nat.le_succ _)
            simpa using this
          · exact B6.out.grown hgr7 (by omega) (fun j hj => by have := H6.out.lt j hj; omega)
        · obtain rfl : m = k' + 1 := by omega
          subst hck
          go_wp2_with (first | (go_at_call 22; refine (l12Before_eq w.heap.size 0 b _ x y _ HC.out q0 q1 q2 d0 d1 d2).mono ?_; rintro e w4 ⟨rfl, N2, rfl⟩; have hb4 : Below w.heap.size w (wr.drewN N2) := bel_drewN hbN N2; have hP4 : Blk (wr.drewN N2) w.heap.size 34 #[.int .i64 x.lift, .int .i64 x.crane, .int .i64 x.start, .int .i64 x.stop] := hPN; have hs4 : w.heap.size < (wr.drewN N2).heap.size := hszN; generalize wr.drewN N2 = w4 at hb4 hP4 hs4 ⊢; have HB4 := Lib.hid hb4; have HP4 := Lib.hid hP4; clear hb4 hP4) | (at_builtin; refine wpList_join _ rfl _ _ 24 rfl (w.heap.size + 1) 34 (.agg #[.int .i64 0, .int .i64 0, .int .i64 0, .int .i64 0]) 32 Try.underlying24 TaskInfo rfl (by omega) _ [] (xs.take (k' + 1)) rfl (Grow.empty _ _ _ (by omega)) ⟨b, off, none⟩ (k' + 1) (k' + 1) rfl lo w.heap.size ((HX.out.below (HB4.out.alloc (by omega) _)).take (by omega)) Task.cs_len Task.cs_one (by first | omega | (simp; done) | (simp; omega) | (have := hlen.out; simp; omega) | (have h9 := HTL2.out; omega)) (by omega) (by first | omega | (simp; done) | (simp; omega) | (have := hlen.out; simp; omega) | (have h9 := HTL2.out; omega)) ?_; intro v5 w5 hg5 hgr5; obtain ⟨A5, cap5, hv5⟩ := hg5.form; rw [HTL.out] at hv5; rw [hv5] at hg5 ⊢; have hs5 := hgr5.size; (try simp at hs5); have hb5 : Below w.heap.size w w5 := (HB4.out.alloc (by omega) _).grown hgr5 (by first | omega | (simp; done) | (simp; omega) | (have := hlen.out; simp; omega) | (have h9 := HTL2.out; omega)) (fun j hj => by have := ownBlock_eq hj; omega); have P5 : Blk w5 w.heap.size 34 #[.int .i64 x.lift, .int .i64 x.crane, .int .i64 x.start, .int .i64 x.stop] := (HP4.out.alloc _).grown hgr5 (by intro hj; have := ownBlock_eq hj.symm; omega); have c50 := P5.cell 0; have c51 := P5.cell 1; have c52 := P5.cell 2; have c53 := P5.cell 3; simp at c50 c51 c52 c53; have H5 := Lib.hid hg5; clear hg5 hgr5 P5) | (at_builtin; refine wpList_snoc _ rfl _ _ 24 rfl (w.heap.size + 1) 34 (.agg #[.int .i64 0, .int .i64 0, .int .i64 0, .int .i64 0]) 32 Try.underlying24 TaskInfo rfl (by omega) _ ([] ++ xs.take (k' + 1)) x rfl (H5.out.alloc _) _ _ rfl (heap_new_at _ _ (by simp)) rfl rfl (Task.cs_one _) (by first | omega | (simp; done) | (simp; omega) | (have := hlen.out; simp; omega) | (have h9 := HTL2.out; omega)) (by omega) (by first | omega | (simp; done) | (simp; omega) | (have := hlen.out; simp; omega) | (have h9 := HTL2.out; omega)) ?_; intro v6 w6 hg6 hgr6; obtain ⟨A6, cap6, hv6⟩ := hg6.form; (try rw [HTL2.out] at hv6); rw [hv6] at hg6 ⊢; have hs6 := hgr6.size; (try simp at hs6); have b6 : Below w.heap.size w w6 := (hb5.alloc (by first | omega | (simp; done) | (simp; omega) | (have := hlen.out; simp; omega) | (have h9 := HTL2.out; omega)) _).grown hgr6 (by first | omega | (simp; done) | (simp; omega) | (have := hlen.out; simp; omega) | (have h9 := HTL2.out; omega)) (fun j hj => by have := H5.out.lt j hj; omega); have H6 := Lib.hid hg6; have B6 := Lib.hid b6; have HL6 : (([] ++ xs.take (k' + 1)) ++ [x]).length = _ := rfl; clear hg6 hgr6 b6) | (at_builtin; refine wpList_join _ rfl _ _ 24 rfl (w.heap.size + 1) 34 (.agg #[.int .i64 0, .int .i64 0, .int .i64 0, .int .i64 0]) 32 Try.underlying24 TaskInfo rfl (by omega) _ _ (xs.drop (k' + 1)) rfl H6.out _ _ _ rfl lo w.heap.size (show Arr Task.cs 4 w6 lo w.heap.size _ _ (xs.drop (k' + 1)) from ⟨by have := hlen.out; simp; omega, fun h => absurd h (by omega)⟩) Task.cs_len Task.cs_one (by first | omega | (simp; done) | (simp; omega) | (have := hlen.out; simp; omega) | (have h9 := HTL2.out; omega)) (by omega) (by omega) ?_; intro v7 w7 hg7 hgr7))
          go_ret
          refine ⟨v7, rfl, ?_, ?_⟩
          · unfold putT
            rw [hlen.out, HPK.out]
            have := hg7.less (lo' := w.heap.size) (Nat.le_succ _)
            simpa using this
          · exact B6.out.grown hgr7 (by omega) (fun j hj => by have := H6.out.lt j hj; omega)

      · have HC := Lib.hid hc
        go_wp2_with (go_at_call 22; refine (l12Before_eq w.heap.size 0 b _ x y _ hc q0 q1 q2 d0 d1 d2).mono ?_; rintro e w4 ⟨rfl, N2, rfl⟩)
        go_roundw
        case rel => exact ⟨k', N + N2, by omega, by go_num, by rw [HP.out, putTo_go HY.out HC.out], by rw [HW.out]; exact World.drewN_drewN _ _ _⟩
        case measure => first | (simp [intOf]; done) | (simp [intOf]; omega)
end Go.Proofs.Ytmchkhjchpnmaaa
