/- ReadTasks of the reference: the tasks that a text tells, if it tells any. -/
import Derived.Test.YtkegncanmfmmmaaDoorL11Line
import Derived.Test.YtkegncanmfmmmaaDoorReadTasks
import Derived.Deep.RegionHeld3
import Derived.Maps.AppendAt
namespace Go.Proofs.YtkegncanmfmmmaaDoor
open Go.RowKit
set_option linter.unusedVariables false
set_option linter.unusedSimpArgs false

/-- append(xs, x) at the operation, and where the new row lies -/
theorem wpList_snoc_on {α : Type} {c : α → List Value} {k : Nat} {P : Program} {ops : Array Oper} {rest : List Oper} {o : Oper} {a : Act} {Q : Exit → Act → World → Prop} (w : World) (hgd : o.guard = none) (s x : Operand) (t : TypeId)
    (ho : o.op = .call { callee := .builtin .append, args := #[s, x], argTypes := #[t, t] })
    (lo : Nat) (e : TypeId) (z : Value) (bytes : Nat) (ht : P.underlying t = some (.slice e)) (hinfo : (P.info? e).map (fun i => (i.zero, i.size, i.bytes)) = some (some z, k, bytes)) (hzs : z.cells.size = k) (hk : 0 < k)
    (v : Value) (xs : List α) (y : α) (hs : a.eval s = v) (hown : Grow c k w lo e v xs) (g : Nat) (cs : Array Value) (hx : a.eval x = .slice (some ⟨g, 0, none⟩) 1 1) (hg : w.heap[g]? = some (.cells cs e (0, 0)))
    (hcy : c y = cs.toList) (hlen : (c y).length = k) (h1 : ∀ u ∈ c y, u.oneCell' = true) (h63 : xs.length + 1 ≤ 4194304) (hbytes : bytes ≤ 4096) (hbase : lo ≤ w.heap.size)
    (h : ∀ v' w', Grow c k w' lo e v' (xs ++ [y]) → w.grownBy w' v.ownBlock → (v'.ownBlock = v.ownBlock ∨ v'.ownBlock = some w.heap.size) → wpList P ops Q rest (a.put o.dst v') w') : wpList P ops Q (o :: rest) a w := by
  obtain ⟨i0, hi, hz0, hz1, hz2⟩ := info_parts hinfo
  refine wpList_append_own_at w hgd s x t ho lo e i0 z k bytes ht hi hz0 hz1 hz2 hzs hk v xs.length (xs.flatMap c) hs hown ⟨g, 0, none⟩ 1 1 (c y) hx (by omega) (fun j u hu => ?_) h1 (by unfold maxLen; omega)
    (Nat.le_trans (Nat.mul_le_mul h63 hbytes) (by decide)) hbase fun v' w' r1 r2 _ r3 => h v' w' (by simpa [Grow] using r1) r2 r3
  have hadd : (⟨g, 0, none⟩ : Addr).add j = ⟨g, j, none⟩ := by unfold Addr.add; split <;> simp_all
  rw [hadd, cell_of_row w g j cs e (0, 0) hg]
  rw [hcy] at hu; simpa using hu
theorem RetTks.no {s : ByteArray} {w w' : World} (hb : Below w.heap.size w w') (hn : ¬ ∃ xs, IsTasks s xs) : RetTks s w (.returned (.tuple #[.slice none 0 0, .bool false])) w' := ⟨hb, .inr ⟨hn, rfl⟩⟩
set_option maxRecDepth 100000 in
set_option maxHeartbeats 6400000 in
theorem specReadTasks_any (s : ByteArray) (hs : s.size ≤ 1048576) (w : World) : Calls Tryd.prog 25 #[.string s] w (RetTks s w) := by
  have HPZ : Hid (∀ x ∈ spl 10 s, x.size ≤ s.size) := pieces_size 10 s
  have hnl := spl_len 10 s
  obtain ⟨m, hm⟩ : ∃ m, (spl 10 s).length = m + 1 := by
    have : spl 10 s ≠ [] := fun e => by
      have h := spl_list 10 s
      rw [e] at h
      exact splitB_ne 10 _ h.symm
    exact ⟨(spl 10 s).length - 1, by have := List.length_pos_iff.2 this; omega⟩
  have HM := Lib.hid hm
  have hm1 : m ≤ 1048576 := by omega
  go_enter Tryd.func25, Tryd.ntmps25
  go_wp2_with fail
  refine (l01Split_any 10 10 rfl s _ hs).mono ?_
  rintro e w1 ⟨A0, cap0, rfl, ho0, hb0⟩
  have HO0 := Lib.hid (ho0.arr wc_len)
  have HB0 := Lib.hid hb0
  have hs1 := hb0.size
  clear ho0 hb0
  rw [HM.out] at HO0 ⊢
  clear hm hnl
  obtain ⟨b, off, zz, rfl, hzx, _, hbl, c0⟩ := wc_at HO0.out (i := m) (by omega)
  have HZX := Lib.hid hzx
  have hbl2 := hbl
  have c1 := c0
  have hm0 : (0 : Int) ≤ (m : Int) := by omega
  by_cases hz : zz.size = 0
  · have hze := empty_text hz
    subst hze
    by_cases hmany : m + 1 ≤ 41
    · have hmi : ¬ (41 : Int) < (m : Int) + 1 := by omega
      clear hzx
      have HG0 : Hid (Grow Task.cs 4 (w1.alloc (.cells #[] 102)) w1.heap.size 102 (.slice (some ⟨w1.heap.size, 0, none⟩) 0 0) []) := Grow.empty w1 w1.heap.size 102 (Nat.le_refl _)
      go_wp2
      go_loopw [5, 6] (fun v i wr => ∃ (k : Nat) (ys : List Task), k ≤ m ∧ i = .int .i64 k ∧ SpTo s ys k ∧ Grow Task.cs 4 wr w1.heap.size 102 v ys ∧ Below w1.heap.size w1 wr) (fun _ i _ => m - (intOf i).toNat)
      case atStart => exact ⟨0, [], Nat.zero_le _, rfl, SpTo.zero s, HG0.out, (Below.refl _ _).alloc (Nat.le_refl _) _⟩
      case round v _ =>
        obtain ⟨k, ys, hk, rfl, hrd, hg, hb⟩ := hrel
        have HRD := Lib.hid hrd
        have HG := Lib.hid hg
        have HB := Lib.hid hb
        have hsz := hb.size
        have HYL := Lib.hid hrd.1
        have HB01 := Lib.hid (HB0.out.trans (hb.mono hs1))
        clear hrd
        by_cases hlt : k < m
        · obtain ⟨b2, off2, wd, hbe, hx, _, _, c2⟩ := wc_at (HO0.out.below hb) (i := k) (by omega)
          cases hbe
          have HX := Lib.hid hx
          have hwl : wd.size ≤ s.size := HPZ.out wd (List.mem_of_getElem? hx)
          have hk0 : (0 : Int) ≤ (k : Int) := by omega
          have hk1 : (k : Int) < (m : Int) := by omega
          have hk2 : (k : Int) < (m : Int) + 1 := by omega
          obtain ⟨Ay, capy, rfl⟩ := hg.form
          clear hx hb hg c0 c1
          go_wp2_with fail
          refine (l11Line_any wd (by omega) _).mono ?_
          rintro e w2 ⟨hb2, ⟨⟨x, y, z, u⟩, hc, rfl⟩ | ⟨hno, x, y, z, u, rfl⟩⟩
          · have HC := Lib.hid hc
            have HB2 := Lib.hid hb2
            have hsz2 := hb2.size
            have HB5 : Hid (Below wr.heap.size wr (w2.alloc (.cells #[.int .i64 x, .int .i64 y, .int .i64 z, .int .i64 u] 102))) := hb2.alloc hsz2 _
            have HG5 := Lib.hid (HG.out.bel HB5.out)
            have HNE : Hid (∀ g, (Value.slice Ay ys.length capy).ownBlock = some g → w1.heap.size ≤ g) := fun g hg => (HG.out.lt g hg).1
            clear hb2 hc
            go_wp2_with (at_builtin; refine wpList_snoc_on _ rfl _ _ 55 rfl w1.heap.size 102 (.agg #[.int .i64 0, .int .i64 0, .int .i64 0, .int .i64 0]) 32 Tryd.underlying55 TaskInfo rfl (by omega) _ ys (⟨x, y, z, u⟩ : Task) rfl (HG5.out.alloc _) _ _ rfl (heap_new_at _ _ (by simp)) rfl rfl (Task.cs_one _) (by have := HYL.out; omega) (by omega) (by simp; omega) ?_; intro v5 w5 hg5 hgr5 hat5; have hb5 : RowKit.Below w1.heap.size w1 w5 := (HG5.out.alloc _).below ((HB.out.trans (HB5.out.mono hsz)).alloc (by simp; omega) _) hgr5 (Nat.le_refl _) (by simp; omega); have HB6 := Lib.hid hb5; have HG6 := Lib.hid hg5; clear hg5 hgr5 hb5 hat5)
            go_roundw
            case rel => exact ⟨k + 1, ys ++ [⟨x, y, z, u⟩], by omega, by go_num, HRD.out.step HX.out HC.out, HG6.out, HB6.out⟩
            case measure => simp [intOf]; omega
          · have HNO := Lib.hid (no_sp (by rw [HM.out]; omega) HX.out hno)
            have HB2 := Lib.hid hb2
            clear hno hb2
            go_wp2
            go_ret2
            exact RetTks.no (HB01.out.trans ((HB2.out.alloc HB2.out.size _).mono (by have := HB01.out.size; omega))) HNO.out
        · obtain rfl : k = m := by omega
          obtain ⟨Ay, capy, rfl⟩ := hg.form
          obtain ⟨A7, cap7, e7, ho7⟩ := hg.own Task.cs_len
          cases e7
          have HO7 := Lib.hid ho7
          have HAR7 := Lib.hid (ho7.arr Task.cs_len)
          clear hg ho7 hb
          cases hok : tasksOk ys
          · have HNO : Hid (¬ ∃ xs, IsTasks s xs) := by
              rintro ⟨xs, hx⟩
              have e := HRD.out.is HM.out HZX.out (by rfl) hx
              have := hx.1
              rw [e, hok] at this; cases this
            have HK := Lib.hid hok
            clear hok
            go_wp2_with (go_at_call 66; refine (l11Ok_eq Ay ys.length capy ys _ w1.heap.size HAR7.out (by have := HYL.out; omega) HK.out).mono ?_; rintro e w2 ⟨rfl, hb2⟩)
            go_ret2
            exact RetTks.no (HB01.out.trans (hb2.mono (by have := HB01.out.size; omega))) HNO.out
          · have HIS : Hid (IsTasks s ys) := ⟨hok, HRD.out.text HM.out HZX.out (by rfl)⟩
            have HK := Lib.hid hok
            clear hok
            go_wp2_with (go_at_call 66; refine (l11Ok_eq Ay ys.length capy ys _ w1.heap.size HAR7.out (by have := HYL.out; omega) HK.out).mono ?_; rintro e w2 ⟨rfl, hb2⟩)
            go_ret2
            exact ⟨HB01.out.trans (hb2.mono (by have := HB01.out.size; omega)), .inl ⟨ys, Ay, capy, HIS.out, rfl, (HO7.out.bel hb2).wide HB0.out.size hb2.size⟩⟩
    · have hmi : (41 : Int) < (m : Int) + 1 := by omega
      have HNO := Lib.hid (no_many (s := s) (by rw [HM.out]; omega))
      clear hzx
      go_wp2
      go_ret2
      exact RetTks.no (HB0.out.alloc hs1 _) HNO.out
  · have hne := nonempty_list (s := zz) (by omega)
    have hne2 : (zz.toList == []) = false := by cases h : zz.toList with
      | nil => rw [h] at hne; cases hne
      | cons a t => rfl
    have HNO := Lib.hid (no_end HM.out hzx hz)
    clear hz hzx
    go_wp2
    go_ret2
    exact RetTks.no (HB0.out.alloc hs1 _) HNO.out
end Go.Proofs.YtkegncanmfmmmaaDoor
