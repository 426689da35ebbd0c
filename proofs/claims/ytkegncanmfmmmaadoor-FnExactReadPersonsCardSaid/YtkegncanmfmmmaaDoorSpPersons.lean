/- ReadPersons of the reference: the persons that a text tells, if it tells any. -/
import Derived.Test.YtkegncanmfmmmaaDoorRoles24
import Derived.Test.YtkegncanmfmmmaaDoorReadPersons
import Derived.Test.YtkegncanmfmmmaaDoorQuietTail2
import Derived.Deep.RegionHeld3
import Derived.Maps.AppendAt
namespace Go.Proofs.YtkegncanmfmmmaaDoor
open Go.RowKit Go.Sort Go.Shelf
set_option linter.unusedVariables false
set_option linter.unusedSimpArgs false

/-- append(xs, x) at the operation, and where the new row lies -/
theorem wpList_snoc_on {α : Type} {c : α → List Value} {k : Nat} {P : Program} {ops : Array Oper} {rest : List Oper} {o : Oper} {a : Act} {Q : Exit → Act → World → Prop} (w : World) (hgd : o.guard = none) (s x : Operand) (t : TypeId)
    (ho : o.op = .call { callee := .builtin .append, args := #[s, x], argTypes := #[t, t] })
    (lo : Nat) (e : TypeId) (z : Value) (bytes : Nat) (ht : P.underlying t = some (.slice e)) (hinfo : (P.info? e).map (fun i => (i.zero, i.size, i.bytes)) = some (some z, k, bytes)) (hzs : z.cells.size = k) (hk : 0 < k)
    (v : Value) (xs : List α) (y : α) (hs : a.eval s = v) (hown : Grow c k w lo e v xs) (g : Nat) (cs : Array Value) (hx : a.eval x = .slice (some ⟨g, 0, none⟩) 1 1) (hg : w.heap[g]? = some (.cells cs e (0, 0)))
    (hcy : c y = cs.toList) (hlen : (c y).length = k) (h1 : ∀ u ∈ c y, u.oneCell' = true) (h63 : xs.length + 1 ≤ 4194304) (hbytes : bytes ≤ 4096) (hbase : lo ≤ w.heap.size)
    (h : ∀ v' w', Grow c k w' lo e v' (xs ++ [y]) → w.grownBy w' v.ownBlock → (v'.ownBlock = v.ownBlock ∨ v'.ownBlock = some w.heap.size) → wpList P ops Q rest (a.put o.dst v') w') : wpList P ops Q (o :: rest) a w := by
  obtain ⟨i0, hi, hz0, hz1, hz2⟩ := info_parts hinfo
  refine wpList_append_own_at w hgd s x t ho lo e i0 z k bytes ht hi hz0 hz1 hz2 hzs hk v xs.length (xs.flatMap c) hs hown ⟨g, 0, none⟩ 1 1 (c y) hx (by omega) (fun j u hu => ?_) h1 (by unfold maxLen; omega)
    (Nat.le_trans (Nat.mul_le_mul h63 hbytes) (by decide)) hbase fun v' w' r1 r2 _ r3 => h v' w' (by simpa [Grow] using r1) r2 r3
  have hadd : (⟨g, 0, none⟩ : Addr).add j = ⟨g, j, none⟩ := by unfold Addr.add; split <;> simp_all
  rw [hadd, cell_of_row w g j cs e (0, 0) hg]
  rw [hcy] at hu; simpa using hu
theorem rFrom_wf : ∀ (b : List UInt8) (s : Int), 0 ≤ s → s ≤ 7 → -1 ≤ rFrom s b ∧ rFrom s b ≤ 7
  | [], s, h0, h7 => by unfold rFrom; split <;> omega
  | x :: r, s, h0, h7 => by
    rw [rFrom_cons]
    split
    · omega
    · next h =>
      rcases letBit_cases x with ⟨_, e⟩ | ⟨_, e⟩ | ⟨_, e⟩ | e
      all_goals exact rFrom_wf r _ (by omega) (by omega)
theorem rSp_wf (b : List UInt8) : -1 ≤ rSp b ∧ rSp b ≤ 7 := by
  unfold rSp
  split
  · omega
  · exact rFrom_wf b 0 (by omega) (by omega)
theorem psSp_no3 {q : ByteArray} (h : (spl 32 q).length ≠ 3) : ∀ p, ¬ PsSp q.data.toList p := by
  intro p hp
  obtain ⟨b, c, h1, _, _⟩ := hp.w
  rw [← spl_list] at h1
  have h2 := congrArg List.length h1
  rw [List.length_map] at h2
  exact h h2
theorem psSp_nonum {q a b c : ByteArray} (hq : spl 32 q = [a, b, c]) (h : numB c.data.toList = false) : ∀ p, ¬ PsSp q.data.toList p := by
  intro p hp
  obtain ⟨b', c', h1, h2, _⟩ := hp.w
  rw [← spl_list, hq] at h1
  simp only [List.map_cons, List.map_nil, List.cons.injEq, and_true] at h1
  obtain ⟨_, _, rfl⟩ := h1
  have := (num_some h2).2
  rw [h] at this; cases this
theorem psSp_yes {q a b c : ByteArray} (hq : spl 32 q = [a, b, c]) (h : numB c.data.toList = true) : PsSp q.data.toList ⟨a, rSp b.data.toList, numV c.data.toList⟩ := by
  unfold numB at h
  obtain ⟨x, hx⟩ := Option.isSome_iff_exists.1 h
  refine ⟨⟨b.data.toList, c.data.toList, by rw [← spl_list, hq]; rfl, ?_, rfl⟩⟩
  rw [hx, (num_some hx).1]
theorem RetPs.no {s : ByteArray} {w w' : World} (hb : Below w.heap.size w w') (hn : ¬ ∃ xs, IsPersons s xs) : RetPs s w (.returned (.tuple #[.slice none 0 0, .bool false])) w' := ⟨hb, .inr ⟨hn, rfl⟩⟩
set_option maxRecDepth 100000 in
set_option maxHeartbeats 6400000 in
theorem specReadPersons_any (s : ByteArray) (hs : s.size ≤ 1048576) (w : World) : Calls Tryd.prog 20 #[.string s] w (RetPs s w) := by
  have HPZ : Hid (∀ x ∈ spl 10 s, x.size ≤ s.size) := pieces_size 10 s
  have hnl := spl_len 10 s
  obtain ⟨m, hm⟩ : ∃ m, (spl 10 s).length = m + 1 := by
    have : spl 10 s ≠ [] := fun e => by
      have h := spl_list 10 s
      rw [e] at h
      exact splitB_ne 10 _ h.symm
    exact ⟨(spl 10 s).length - 1, by have := List.length_pos_iff.2 this; omega⟩
  have HM := Lib.hid hm
  have hm1 : m ≤ 1048576 := by omega
  go_enter Tryd.func20, Tryd.ntmps20
  go_wp2_with fail
  refine (l01Split_any 10 10 rfl s _ hs).mono ?_
  rintro e w1 ⟨A0, cap0, rfl, ho0, hb0⟩
  have HO0 := Lib.hid (ho0.arr wc_len)
  have HB0 := Lib.hid hb0
  have hs1 := hb0.size
  clear ho0 hb0
  rw [HM.out] at HO0 ⊢
  clear hm hnl
  obtain ⟨b, off, zz, rfl, hzx, _, hbl, c0⟩ := wc_at HO0.out (i := m) (by omega)
  have HZX := Lib.hid hzx
  have hbl2 := hbl
  have c1 := c0
  have hm0 : (0 : Int) ≤ (m : Int) := by omega
  by_cases hz : zz.size = 0
  · have hze := empty_text hz
    subst hze
    by_cases hmany : m + 1 ≤ 31
    · have hmi : ¬ (31 : Int) < (m : Int) + 1 := by omega
      clear hzx
      have HG0 : Hid (Grow Person.cs 3 (w1.alloc (.cells #[] 92)) w1.heap.size 92 (.slice (some ⟨w1.heap.size, 0, none⟩) 0 0) []) := Grow.empty w1 w1.heap.size 92 (Nat.le_refl _)
      go_wp2
      go_loopw [5, 6] (fun v i wr => ∃ (k : Nat) (ys : List Person), k ≤ m ∧ i = .int .i64 k ∧ SqTo s ys k ∧ (∀ p ∈ ys, p.wf) ∧ Grow Person.cs 3 wr w1.heap.size 92 v ys ∧ Below w1.heap.size w1 wr) (fun _ i _ => m - (intOf i).toNat)
      case atStart => exact ⟨0, [], Nat.zero_le _, rfl, SqTo.zero s, (fun p hp => by cases hp), HG0.out, (Below.refl _ _).alloc (Nat.le_refl _) _⟩
      case round v _ =>
        obtain ⟨k, ys, hk, rfl, hrd, hwf, hg, hb⟩ := hrel
        have HWF := Lib.hid hwf
        have HRD := Lib.hid hrd
        have HG := Lib.hid hg
        have HB := Lib.hid hb
        have hsz := hb.size
        have HYL := Lib.hid hrd.1
        have HB01 := Lib.hid (HB0.out.trans (hb.mono hs1))
        clear hrd hwf
        by_cases hlt : k < m
        · obtain ⟨b2, off2, wd, hbe, hx, _, _, c2⟩ := wc_at (HO0.out.below hb) (i := k) (by omega)
          cases hbe
          have HX := Lib.hid hx
          have hwl : wd.size ≤ s.size := HPZ.out wd (List.mem_of_getElem? hx)
          have hk0 : (0 : Int) ≤ (k : Int) := by omega
          have hk1 : (k : Int) < (m : Int) := by omega
          have hk2 : (k : Int) < (m : Int) + 1 := by omega
          obtain ⟨Ay, capy, rfl⟩ := hg.form
          have HWZ : Hid (∀ x ∈ spl 32 wd, x.size ≤ wd.size) := pieces_size 32 wd
          have hn3 := spl_len 32 wd
          obtain ⟨n3, hn3e⟩ : ∃ n3, n3 = (spl 32 wd).length := ⟨_, rfl⟩
          have HN3 := Lib.hid hn3e
          clear hx hb hg c0 c1
          go_wp2_with fail
          refine (l01Split_any 32 32 rfl wd _ (by omega)).mono ?_
          rintro e w2 ⟨A2, cap2, rfl, ho2, hb2⟩
          have HO2 := Lib.hid (ho2.arr wc_len)
          have HB2 := Lib.hid hb2
          have hsz2 := hb2.size
          clear ho2 hb2
          rw [← hn3e] at HO2 hn3 ⊢
          clear hn3e
          by_cases h3 : n3 = 3
          · subst h3
            obtain ⟨a, b', c, hw3⟩ : ∃ a b c, spl 32 wd = [a, b, c] := by
              have hh := HN3.out
              match hq : spl 32 wd, hh with
              | [a, b, c], _ => exact ⟨a, b, c, rfl⟩
            have HW3 := Lib.hid hw3
            have hcz : c.size ≤ 1048576 := by have := HWZ.out c (by rw [hw3]; simp); omega
            have hbz : b'.size ≤ 1048576 := by have := HWZ.out b' (by rw [hw3]; simp); omega
            have haz : a.size ≤ 1048576 := by have := HWZ.out a (by rw [hw3]; simp); omega
            obtain ⟨g, of3, s0, rfl, e0, g1, g2, d0⟩ := wc_at HO2.out (i := 0) (by omega)
            obtain ⟨g', of4, s1, hbe, e1, _, _, d1⟩ := wc_at HO2.out (i := 1) (by omega)
            cases hbe
            obtain ⟨g', of4, s2, hbe, e2, _, _, d2⟩ := wc_at HO2.out (i := 2) (by omega)
            cases hbe
            rw [hw3] at e0 e1 e2
            simp only [List.getElem?_cons_zero, List.getElem?_cons_succ, Option.some.injEq] at e0 e1 e2
            subst e0; subst e1; subst e2
            rw [Nat.add_zero] at d0
            clear hw3
            go_wp2_with fail
            refine (l01Number_any c _ (by omega)).mono ?_
            rintro e w3 ⟨rfl, hb3⟩
            have HB3 : Hid (Below wr.heap.size wr w3) := HB2.out.trans (hb3.mono hsz2)
            have t0 := cell_regrown ((hb3.cell (p := ⟨g, of3, none⟩) g2).trans d0)
            have t1 := cell_regrown ((hb3.cell (p := ⟨g, of3 + 1, none⟩) g2).trans d1)
            obtain ⟨z, hz⟩ : ∃ z, numV c.data.toList = z := ⟨_, rfl⟩
            rw [hz]
            clear hb3 d0 d1 d2
            cases hno : numB c.data.toList
            · have HNO := Lib.hid (no_sp (by rw [HM.out]; omega) HX.out (psSp_nonum HW3.out hno))
              clear hno hz
              go_wp2
              go_ret2
              exact RetPs.no (HB01.out.trans (HB3.out.mono (by have := HB01.out.size; omega))) HNO.out
            · obtain ⟨r, hr⟩ : ∃ r, rSp b'.data.toList = r := ⟨_, rfl⟩
              have HC : Hid (PsSp wd.data.toList ⟨a, r, z⟩) := by rw [← hz, ← hr]; exact psSp_yes HW3.out hno
              have HPW : Hid (Person.wf ⟨a, r, z⟩) := by
                have h1 := rSp_wf b'.data.toList
                rw [hr] at h1
                have h2 := numV_wf c.data.toList
                rw [hz] at h2
                exact ⟨by show a.size ≤ _; omega, ⟨by show _ ≤ r; omega, by show r ≤ _; omega⟩, h2⟩
              have HRR : Hid (∀ d os, Calls Tryd.prog 55 #[.string b'] (grow (redrawn w3 d) os) fun e w' => e = .returned (.int .i64 r) ∧ Below (grow (redrawn w3 d) os).heap.size (grow (redrawn w3 d) os) w') := fun d os => by rw [← hr]; exact l24Roles_any b' hbz _
              clear hno hz hr
              go_wp2
              refine wp_region_below_move 10 (by kernel_rfl) (by kernel_rfl) _ rfl rfl (fun _ _ _ h => h) ?_
              simp only [Nat.reduceSub, List.take_succ_cons, List.take_zero, List.drop_succ_cons, List.drop_zero]
              conv => enter [6]; simp [Act.put, Act.eval]
              repeat (go_big_quiet_step (first | (go_at_call 55; exact Calls.regrown_of (HRR.out _ _))))
              refine wpQuiet_nil ?_
              intro _ hw9
              obtain ⟨⟨dq, osq⟩, hw9⟩ := hw9
              subst hw9
              have hb1 := below_regrown w3 dq osq
              dsimp only at hb1 ⊢
              generalize grow (redrawn w3 dq) osq = W2 at hb1 ⊢
              have HB5 : Hid (Below wr.heap.size wr W2) := HB3.out.trans (hb1.mono HB3.out.size)
              have hsz5 := HB5.out.size
              have HG5 := Lib.hid (HG.out.bel HB5.out)
              clear hb1 t0 t1
              go_wp2_with (at_builtin; refine wpList_snoc_on _ rfl _ _ 50 rfl w1.heap.size 92 (.agg #[.string ⟨#[]⟩, .int .i64 0, .int .i64 0]) 32 Tryd.underlying50 PersonInfo rfl (by omega) _ ys (⟨a, r, z⟩ : Person) rfl (HG5.out.alloc _) _ _ rfl (heap_alloc_new _ _) rfl rfl (Person.cs_one _) (by have := HYL.out; omega) (by omega) (by simp; omega) ?_; intro v5 w5 hg5 hgr5 hat5; have hb5 : RowKit.Below w1.heap.size w1 w5 := (HG5.out.alloc _).below ((HB.out.trans (HB5.out.mono hsz)).alloc (by omega) _) hgr5 (Nat.le_refl _) (by simp; omega); have HB6 := Lib.hid hb5; have HG6 := Lib.hid hg5; clear hg5 hgr5 hb5 hat5)
              go_roundw
              case rel => exact ⟨k + 1, ys ++ [⟨a, r, z⟩], by omega, by go_num, HRD.out.step HX.out HC.out, (fun p hp => by
                rcases List.mem_append.1 hp with hp | hp
                · exact HWF.out p hp
                · rw [List.mem_singleton.1 hp]; exact HPW.out), HG6.out, HB6.out⟩
              case measure => simp [intOf]; omega
          · have hn3' : ¬ (n3 : Int) = 3 := by omega
            have HNO := Lib.hid (no_sp (by rw [HM.out]; omega) HX.out (psSp_no3 (by rw [← HN3.out]; exact h3)))
            clear h3
            go_wp2
            go_ret2
            exact RetPs.no (HB01.out.trans (HB2.out.mono (by have := HB01.out.size; omega))) HNO.out
        · obtain rfl : k = m := by omega
          obtain ⟨Ay, capy, rfl⟩ := hg.form
          obtain ⟨A7, cap7, e7, ho7⟩ := hg.own Person.cs_len
          cases e7
          have HO7 := Lib.hid ho7
          have HAR7 := Lib.hid (ho7.arr Person.cs_len)
          clear hg ho7 hb
          cases hok : personsOk ys
          · have HNO : Hid (¬ ∃ xs, IsPersons s xs) := by
              rintro ⟨xs, hx⟩
              have e := HRD.out.is HM.out HZX.out (by rfl) hx
              have := hx.1
              rw [e, hok] at this; cases this
            have HK := Lib.hid hok
            clear hok
            go_wp2_with (go_at_call 56; refine (l24Ok_eq Ay ys.length capy ys _ w1.heap.size HAR7.out (by have := HYL.out; omega) HWF.out HK.out).mono ?_; rintro e w2 ⟨rfl, hb2⟩)
            go_ret2
            exact RetPs.no (HB01.out.trans (hb2.mono (by have := HB01.out.size; omega))) HNO.out
          · have HIS : Hid (IsPersons s ys) := ⟨hok, HRD.out.text HM.out HZX.out (by rfl) (fun p hp => by obtain ⟨r, hr, _⟩ := (psB (pok_mem hok hp)).role; omega)⟩
            have HK := Lib.hid hok
            clear hok
            go_wp2_with (go_at_call 56; refine (l24Ok_eq Ay ys.length capy ys _ w1.heap.size HAR7.out (by have := HYL.out; omega) HWF.out HK.out).mono ?_; rintro e w2 ⟨rfl, hb2⟩)
            go_ret2
            exact ⟨HB01.out.trans (hb2.mono (by have := HB01.out.size; omega)), .inl ⟨ys, Ay, capy, HIS.out, rfl, (HO7.out.bel hb2).wide HB0.out.size hb2.size⟩⟩
    · have hmi : (31 : Int) < (m : Int) + 1 := by omega
      have HNO := Lib.hid (no_many (s := s) (by rw [HM.out]; omega))
      clear hzx
      go_wp2
      go_ret2
      exact RetPs.no (HB0.out.alloc hs1 _) HNO.out
  · have hne := nonempty_list (s := zz) (by omega)
    have hne2 : (zz.toList == []) = false := by cases h : zz.toList with
      | nil => rw [h] at hne; cases hne
      | cons a t => rfl
    have HNO := Lib.hid (no_end HM.out hzx hz)
    clear hz hzx
    go_wp2
    go_ret2
    exact RetPs.no (HB0.out.alloc hs1 _) HNO.out
end Go.Proofs.YtkegncanmfmmmaaDoor
