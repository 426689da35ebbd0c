/- ReadClimbs of the reference: the climbs that a text tells, if it tells any. -/
import Derived.Test.YtkegncanmfmmmaaDoorRdWordW
import Derived.Deep.RegionHeld3
import Derived.Maps.AppendAt
namespace Go.Proofs.YtkegncanmfmmmaaDoor
open Go.RowKit
set_option linter.unusedVariables false

/-- append(xs, x) at the operation, and where the new row lies -/
theorem wpList_snoc_on {α : Type} {c : α → List Value} {k : Nat} {P : Program} {ops : Array Oper} {rest : List Oper} {o : Oper} {a : Act} {Q : Exit → Act → World → Prop} (w : World) (hgd : o.guard = none) (s x : Operand) (t : TypeId)
    (ho : o.op = .call { callee := .builtin .append, args := #[s, x], argTypes := #[t, t] })
    (lo : Nat) (e : TypeId) (z : Value) (bytes : Nat) (ht : P.underlying t = some (.slice e)) (hinfo : (P.info? e).map (fun i => (i.zero, i.size, i.bytes)) = some (some z, k, bytes)) (hzs : z.cells.size = k) (hk : 0 < k)
    (v : Value) (xs : List α) (y : α) (hs : a.eval s = v) (hown : Grow c k w lo e v xs) (g : Nat) (cs : Array Value) (hx : a.eval x = .slice (some ⟨g, 0, none⟩) 1 1) (hg : w.heap[g]? = some (.cells cs e (0, 0)))
    (hcy : c y = cs.toList) (hlen : (c y).length = k) (h1 : ∀ u ∈ c y, u.oneCell' = true) (h63 : xs.length + 1 ≤ 4194304) (hbytes : bytes ≤ 4096) (hbase : lo ≤ w.heap.size)
    (h : ∀ v' w', Grow c k w' lo e v' (xs ++ [y]) → w.grownBy w' v.ownBlock → (v'.ownBlock = v.ownBlock ∨ v'.ownBlock = some w.heap.size) → wpList P ops Q rest (a.put o.dst v') w') : wpList P ops Q (o :: rest) a w := by
  obtain ⟨i0, hi, hz0, hz1, hz2⟩ := info_parts hinfo
  refine wpList_append_own_at w hgd s x t ho lo e i0 z k bytes ht hi hz0 hz1 hz2 hzs hk v xs.length (xs.flatMap c) hs hown ⟨g, 0, none⟩ 1 1 (c y) hx (by omega) (fun j u hu => ?_) h1 (by unfold maxLen; omega)
    (Nat.le_trans (Nat.mul_le_mul h63 hbytes) (by decide)) hbase fun v' w' r1 r2 _ r3 => h v' w' (by simpa [Grow] using r1) r2 r3
  have hadd : (⟨g, 0, none⟩ : Addr).add j = ⟨g, j, none⟩ := by unfold Addr.add; split <;> simp_all
  rw [hadd, cell_of_row w g j cs e (0, 0) hg]
  rw [hcy] at hu; simpa using hu
set_option maxRecDepth 100000 in
set_option maxHeartbeats 6400000 in
theorem specReadClimbs_any (s : ByteArray) (hs : s.size ≤ 1048576) (w : World) : Calls Tryd.prog 15 #[.string s] w (RetCl s w) := by
  by_cases h0 : s.size = 0
  · have hse := empty_text h0
    clear h0
    subst hse
    have HIS : Hid (IsClimbs ⟨#[]⟩ []) := ⟨by rfl, by rfl⟩
    have HG : Hid (Grow Climb.cs 2 (w.alloc (.cells #[] 78)) w.heap.size 78 (.slice (some ⟨w.heap.size, 0, none⟩) 0 0) []) := Grow.empty _ _ _ (Nat.le_refl _)
    obtain ⟨A, cap, hv, ho⟩ := HG.out.own Climb.cs_len
    cases hv
    have HO := Lib.hid ho
    clear ho
    go_enter Tryd.func15, Tryd.ntmps15
    go_wp2
    go_ret2
    exact ⟨(Below.refl _ _).alloc (Nat.le_refl _) _, .inl ⟨[], _, _, HIS.out, rfl, HO.out⟩⟩
  · have hpos : 0 < s.size := by omega
    have HP := Lib.hid hpos
    have hne := nonempty_list hpos
    have hne2 : (s.toList == []) = false := by cases h : s.toList with
      | nil => rw [h] at hne; cases hne
      | cons a t => rfl
    clear h0 hpos
    go_enter Tryd.func15, Tryd.ntmps15
    go_wp2_with (go_at_call 44; refine (l01Split_any 32 32 rfl s _ hs).mono ?_; rintro e w1 ⟨A0, cap0, rfl, ho0, hb0⟩; have HO0 := Lib.hid (ho0.arr wc_len); have HB0 := Lib.hid hb0; clear ho0 hb0)
    obtain ⟨n, hn⟩ : ∃ n, n = (spl 32 s).length := ⟨_, rfl⟩
    have HN := Lib.hid hn
    have hnl := spl_len 32 s
    have hn1 : n ≤ 1048577 := by omega
    rw [← hn] at HO0 ⊢
    clear hn hnl
    have HG0 : Hid (Grow Climb.cs 2 w1 w.heap.size 78 (.slice (some ⟨w.heap.size, 0, none⟩) 0 0) []) := (Grow.empty w w.heap.size 78 (Nat.le_refl _)).bel HB0.out
    have HBW : Hid (Below w.heap.size w w1) := ((Below.refl _ _).alloc (Nat.le_refl _) _).trans (HB0.out.mono (by simp))
    have hs1 := HBW.out.size
    go_loopw [4, 6] (fun v i wr => ∃ (k : Nat) (ys : List Climb), k ≤ n ∧ i = .int .i64 k ∧ PcsTo s ys k ∧ Grow Climb.cs 2 wr w.heap.size 78 v ys ∧ Below w.heap.size w wr ∧ (∀ g, v.ownBlock = some g → g < w.heap.size + 1 ∨ w1.heap.size ≤ g) ∧ Arr wc 1 wr (w.heap.size + 1) w1.heap.size A0 n (spl 32 s) ∧ w1.heap.size ≤ wr.heap.size) (fun _ i _ => n - (intOf i).toNat)
    case atStart => exact ⟨0, [], Nat.zero_le _, rfl, PcsTo.zero s, HG0.out, HBW.out, fun g hg => .inl (by cases hg; exact Nat.lt_succ_self _), HO0.out.less (by simp), Nat.le_refl _⟩
    case round v _ =>
      obtain ⟨k, ys, hk, rfl, hrd, hg, hb, hat, har, hs1r⟩ := hrel
      have HRD := Lib.hid hrd
      have HG := Lib.hid hg
      have HB := Lib.hid hb
      have HAR := Lib.hid har
      have HAT := Lib.hid hat
      have hsz := hb.size
      have hyl : ys.length = k := hrd.1
      have HYL := Lib.hid hyl
      clear hrd hyl
      by_cases hlt : k < n
      · obtain ⟨b, off, wd, rfl, hx, _, hbl, c0⟩ := wc_at har hlt
        have HX := Lib.hid hx
        have hwl : wd.size ≤ s.size := pieces_size 32 s wd (List.mem_of_getElem? hx)
        have hk0 : (0 : Int) ≤ (k : Int) := by omega
        have hk1 : (k : Int) < (n : Int) := by omega
        obtain ⟨Ay, capy, rfl⟩ := hg.form
        clear hx hb hg har hat
        go_wp2_with fail
        refine (l23Word_any wd (by omega) _).mono ?_
        rintro e w2 ⟨hb2, ⟨⟨x, y⟩, hc, rfl⟩ | ⟨hno, x, y, rfl⟩⟩
        · have HC := Lib.hid hc
          have HB2 := Lib.hid hb2
          have hsz2 := hb2.size
          have HB5 : Hid (Below wr.heap.size wr (w2.alloc (.cells #[.int .i64 x, .int .i64 y] 78))) := hb2.alloc hsz2 _
          have HG5 := Lib.hid (HG.out.bel HB5.out)
          have HNE : Hid (∀ g, (Value.slice Ay ys.length capy).ownBlock = some g → w.heap.size ≤ g) := fun g hg => (HG.out.lt g hg).1
          clear hb2 hc
          go_wp2_with (at_builtin; refine wpList_snoc_on _ rfl _ _ 44 rfl w.heap.size 78 (.agg #[.int .i64 0, .int .i64 0]) 16 Tryd.underlying44 ClimbInfo rfl (by omega) _ ys (⟨x, y⟩ : Climb) rfl (HG5.out.alloc _) _ _ rfl (heap_new_at _ _ (by simp)) rfl rfl (Climb.cs_one _) (by have := HYL.out; omega) (by omega) (by simp; omega) ?_; intro v5 w5 hg5 hgr5 hat5; have hb5 : RowKit.Below w.heap.size w w5 := (HG5.out.alloc _).below ((HB.out.trans (HB5.out.mono hsz)).alloc (by simp; omega) _) hgr5 (Nat.le_refl _) (by simp; omega); have HB6 := Lib.hid hb5; have HG6 := Lib.hid hg5; have HAR6 := Lib.hid ((HAR.out.below ((HB5.out.mono hs1r).alloc (by simp; omega) _)).grown hgr5 (by simp; omega) HAT.out); have HS5 := Lib.hid hgr5.size; have HAT5 := Lib.hid hat5; clear hg5 hgr5 hb5 hat5)
          go_roundw
          case rel => exact ⟨k + 1, ys ++ [⟨x, y⟩], by omega, by go_num, HRD.out.step HX.out HC.out, HG6.out, HB6.out, fun g hg => HAT5.out.elim (fun h => HAT.out g (h ▸ hg)) (fun h => .inr (by rw [h] at hg; cases hg; simp; omega)), HAR6.out, (by have := HS5.out; simp at this; omega)⟩
          case measure => simp [intOf]; omega
        · have HNO := Lib.hid (no_piece HP.out HX.out hno)
          have HB2 := Lib.hid hb2
          clear hno hb2
          go_wp2
          go_ret2
          exact RetCl.no (HB.out.trans ((HB2.out.alloc HB2.out.size _).mono hsz)) HNO.out
      · obtain rfl : k = n := by omega
        have HRW : Hid (PcsTo s ys (spl 32 s).length) := by rw [← HN.out]; exact HRD.out
        obtain ⟨Ay, capy, rfl⟩ := hg.form
        obtain ⟨A7, cap7, e7, ho7⟩ := hg.own Climb.cs_len
        cases e7
        have HO7 := Lib.hid ho7
        have HAR7 := Lib.hid (ho7.arr Climb.cs_len)
        have hyk : ys.length = k := HYL.out
        clear hg ho7 hb hyk har hat
        cases hok : climbsOk ys
        · have HNO : Hid (¬ ∃ xs, IsClimbs s xs) := by
            rintro ⟨xs, hx⟩
            have e := HRW.out.is HP.out hx
            have := hx.1
            rw [e, hok] at this; cases this
          have HK := Lib.hid hok
          clear hok
          go_wp2_with (go_at_call 46; refine (l23Ok_eq Ay ys.length capy ys _ w.heap.size HAR7.out (by have := HYL.out; omega) HK.out).mono ?_; rintro e w2 ⟨rfl, rfl⟩)
          go_ret2
          exact RetCl.no HB.out HNO.out
        · have HIS : Hid (IsClimbs s ys) := ⟨hok, HRW.out.whole⟩
          have HK := Lib.hid hok
          clear hok
          go_wp2_with (go_at_call 46; refine (l23Ok_eq Ay ys.length capy ys _ w.heap.size HAR7.out (by have := HYL.out; omega) HK.out).mono ?_; rintro e w2 ⟨rfl, rfl⟩)
          go_ret2
          exact ⟨HB.out, .inl ⟨ys, Ay, capy, HIS.out, rfl, HO7.out⟩⟩
end Go.Proofs.YtkegncanmfmmmaaDoor
