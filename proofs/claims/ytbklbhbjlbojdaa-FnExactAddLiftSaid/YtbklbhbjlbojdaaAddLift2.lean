/- AddLift of the program, where it lays the new list. -/
import Derived.Test.YtbklbhbjlbojdaaAddLift1
import Derived.Test.YtbklbhbjlbojdaaCloneLifts
import Derived.Laws.Append
import Derived.Test.YtbklbhbjlbojdaaSteps
import Derived.Deep.AppendLies
import Derived.Deep.RegionHeld3
namespace Go.Proofs.Ytbklbhbjlbojdaa
open Go.RowKit
set_option linter.unusedVariables false

theorem step_append_run {P : Program} {w : World} {ops : Array Oper} {o : Oper} {a : Act} {K : Act → World → Prop} {Q : Exit → Act → World → Prop} {E : Prop} (hgd : o.guard = none) (s x : Operand) (t : TypeId)
    (ho : o.op = .call { callee := .builtin .append, args := #[s, x], argTypes := #[t, t] }) (v u r : Value) (w' : World) (hs : a.eval s = v) (hx : a.eval x = u) (hr : (Builtin.append_ #[t, t] o.type #[v, u]).run P w = .ok r w') (h : K (a.put o.dst r) w') :
    if Region.wanted o (yielded ops a.tmps) = true then Oper.wp P o a w K Q else E := by
  have hw : Region.wanted o (yielded ops a.tmps) = true := by simp [Region.wanted, hgd]
  rw [if_pos hw]
  unfold Oper.wp execOp
  simp only [ho, resolve, invoke, builtin, Sem.run_bind, Sem.run_pure, Result.andThen_ok, List.map_toArray, List.map_cons, List.map_nil, hs, hx, hr]
  exact h
theorem Arr.wideTo {α : Type} {c : α → List Value} {k : Nat} {w : World} {lo lo' hi n : Nat} {A : Option Addr} {xs : List α} (h : Arr c k w lo hi A n xs) (hl : lo' ≤ lo) : Arr c k w lo' hi A n xs :=
  ⟨h.1, fun hn => by obtain ⟨b, off, e1, h1, h2, h3⟩ := h.2 hn; exact ⟨b, off, e1, by omega, h2, h3⟩⟩
set_option maxRecDepth 100000 in
set_option maxHeartbeats 3200000 in
theorem addLift_late (a : Addr) (n c : Nat) (ps : List Lift) (vs : List LV) (hv : ps.map Lift.val = vs) (l : Lift) (w : World) (lo lo2 : Nat) (h : Lifts w lo w.heap.size (some a) n ps) (hn : n ≤ 1048576) (hc : n ≤ c) (hc2 : c ≤ 1048576) (hp : ∀ p ∈ ps, p.wf) (hpn : ∀ p ∈ ps, p.r.n ≤ 1048576) (hl : l.wf) (hln : l.r.n ≤ 1048576) (hr : Arr ic 1 w lo2 w.heap.size l.r.a l.r.n l.r.xs) (h1 : liftsOk vs = true) (h2 : ¬ 0 ≤ fIdx (nameIs l.v.name) vs) (h3 : ¬ 10 ≤ n) :
    Calls Try.prog 19 #[.slice (some a) n c, .agg #[.string l.v.name, .int .i64 l.v.weight, .int .i64 l.v.fx, .int .i64 l.v.fy, .int .i64 l.v.tx, .int .i64 l.v.ty, .int .i64 l.v.height, .int .i64 l.v.deadline, .slice l.r.a l.r.n l.r.cap]] w (RetLW (alXs vs l.val) (alCode vs l.val) w) := by
  have HV := Lib.hid hv
  have HP := Lib.hid hp
  have HL : Hid (vs.length = n) := by show _ = _; rw [lv_len hv, h.len]
  have HN := Lib.hid (any_named ps vs hv l.v.name)
  have HA : Hid ((ps.any fun p => nameIs l.v.name p.val) = false) := by show _ = _; rw [HN.out]; exact decide_eq_false h2
  have H1 := Lib.hid h1
  have H2 := Lib.hid h2
  have h3' : ¬ (10 : Int) ≤ (n : Int) := by omega
  obtain ⟨W, hW⟩ : ∃ W : World, W = w.alloc (.cells #[.string l.v.name, .int .i64 l.v.weight, .int .i64 l.v.fx, .int .i64 l.v.fy, .int .i64 l.v.tx, .int .i64 l.v.ty, .int .i64 l.v.height, .int .i64 l.v.deadline, .slice l.r.a l.r.n l.r.cap] 36) := ⟨_, rfl⟩
  have B0 : Below w.heap.size w W := by rw [hW]; exact (Below.refl _ _).alloc (Nat.le_refl _) _
  have P0 : Blk W w.heap.size 36 #[.string l.v.name, .int .i64 l.v.weight, .int .i64 l.v.fx, .int .i64 l.v.fy, .int .i64 l.v.tx, .int .i64 l.v.ty, .int .i64 l.v.height, .int .i64 l.v.deadline, .slice l.r.a l.r.n l.r.cap] := by rw [hW]; exact Blk.new _ _ _
  have HC := Lib.hid (h.next B0)
  clear h hv hp h1 h2
  go_enter Try.func19, Try.ntmps19
  go_wp2_with fail
  rw [← hW]
  clear hW
  refine (validLifts_any _ _ _ ps vs HV.out _ _ HC.out hn HP.out).mono ?_
  rintro e w1 ⟨rfl, hb1⟩
  rw [H1.out]
  have B1 := B0.trans (hb1.mono B0.size)
  have HC1 := Lib.hid (HC.out.next hb1)
  have P1 := P0.bel hb1
  clear P0 hb1
  go_wp2_with fail
  refine (containsLiftNamed_any (some a) n c ps _ _ HC1.out (by omega) (fun p => nameIs l.v.name p.val) ⟨w.heap.size, 0, none⟩ (fun p W' _ hb => sameName_any p l.v.name w.heap.size W' ((P1.bel hb).cell 0) (P1.bel hb).lt)).mono ?_
  rintro e w2 ⟨rfl, hb2⟩
  rw [HA.out]
  have B2 := B1.trans (hb2.mono B1.size)
  have HC2 := Lib.hid (HC1.out.next hb2)
  have P2 := P1.bel hb2
  clear P1 hb2
  obtain ⟨d0, d1, d2, d3, d4, d5, d6, d7, d8⟩ := Lift.blk P2
  have hg2 := P2.lt
  go_wp2
  obtain ⟨i0, hi, hz0, hz1, hz2⟩ := info_parts LiftInfo
  obtain ⟨X, hX⟩ : ∃ X : World, X = w2.drew.alloc (.cells l.cs.toArray 36) := ⟨_, rfl⟩
  have hBX : Below w2.heap.size w2 X := by rw [hX]; exact ((Below.refl _ _).drew).alloc (Nat.le_refl _) _
  have hXs : X.heap.size = w2.heap.size + 1 := by rw [hX]; simp
  have hXb : Blk X w2.heap.size 36 l.cs.toArray := by rw [hX]; exact Blk.new _ _ _
  have hap := run_append_grow (P := Try.prog) (w := X) 30 30 36 i0 _ Try.underlying30 hi hz0 a n n (ps.flatMap Lift.cs) (by rw [hz1]; exact (flat_len Lift.cs_len ps).trans (by rw [HC2.out.len])) (arr_news (HC2.out.1.below (w' := X) (hBX)) Lift.cs_len (by omega)).2 ⟨w2.heap.size, 0, none⟩ 1 1 l.cs (by rw [hz1]; rfl) (World.news_of_block (cs := l.cs.toArray) hXb) (by omega) (by omega) (growslice_fits (by omega) (by rw [hz2]; omega))
  have hcap := grownCap_ge X (n + 1) n 36
  obtain ⟨cap6, hcap6⟩ : ∃ k, grownCap X (n + 1) n 36 = k := ⟨_, rfl⟩
  rw [hcap6] at hap hcap
  obtain ⟨zs, hzs⟩ : ∃ zs, Builtin.zeroCells (Value.agg #[.string ⟨#[]⟩, .int .i64 0, .int .i64 0, .int .i64 0, .int .i64 0, .int .i64 0, .int .i64 0, .int .i64 0, .slice none 0 0]).cells (cap6 - (n + 1)) = zs := ⟨_, rfl⟩
  rw [hzs] at hap
  obtain ⟨W6, hW6⟩ : ∃ W6 : World, W6 = X.drew.alloc (.cells ((ps.flatMap Lift.cs).toArray ++ l.cs.toArray ++ zs) 36) := ⟨_, rfl⟩
  rw [← hW6, hXs] at hap
  have hb6 : Below w2.heap.size w2 W6 := by rw [hW6]; exact hBX.drew.alloc (by show w2.heap.size ≤ X.heap.size; omega) _
  have hs6 : W6.heap.size = w2.heap.size + 2 := by rw [hW6]; show (X.drew.alloc _).heap.size = _; simp [hXs]
  have h6b : W6.heap[w2.heap.size + 1]? = some (.cells ((ps.flatMap Lift.cs).toArray ++ l.cs.toArray ++ zs) 36 (0, 0)) := by rw [hW6]; exact heap_new_at _ _ hXs
  have hpl := HC2.out.len
  have HLF : Hid (Lifts W6 0 W6.heap.size (some ⟨w2.heap.size + 1, 0, none⟩) (n + 1) (ps ++ [l])) := by
    refine ⟨⟨by rw [List.length_append, hpl]; rfl, fun _ => ⟨w2.heap.size + 1, 0, rfl, Nat.zero_le _, by omega, fun i x hx j u hu => ?_⟩⟩, fun q hq => ?_⟩
    · have hj : j < 9 := by rw [← Lift.cs_len x]; exact (List.getElem?_eq_some_iff.1 hu).1
      rw [cell_of_row W6 _ (0 + i * 9 + j) _ _ (0, 0) h6b, Nat.zero_add]
      have h9 := flat_at Lift.cs_len (ps ++ [l]) i x hx j hj
      rw [hu, List.flatMap_append] at h9
      have h8 : (ps.flatMap Lift.cs ++ [l].flatMap Lift.cs).toArray = (ps.flatMap Lift.cs).toArray ++ l.cs.toArray := by simp
      rw [← h8]
      have h7 : i * 9 + j < (ps.flatMap Lift.cs ++ [l].flatMap Lift.cs).length := (List.getElem?_eq_some_iff.1 h9).1
      rw [Array.getElem?_append_left (by simpa using h7)]
      simpa using h9
    · rcases List.mem_append.1 hq with hq | hq
      · exact ((HC2.out.2 q hq).wideTo (Nat.zero_le _)).below hb6 |>.more hb6.size
      · rw [List.mem_singleton] at hq; subst hq
        exact ((hr.wideTo (Nat.zero_le _)).below (B2.trans (hb6.mono B2.size))).more (by have := B2.size; omega)
  have hpn6 : ∀ p ∈ ps ++ [l], p.r.n ≤ 1048576 := by
    intro q hq
    rcases List.mem_append.1 hq with hq | hq
    · exact hpn q hq
    · rw [List.mem_singleton] at hq; subst hq; exact hln
  have HPN6 := Lib.hid hpn6
  have hap1 : (Builtin.append_ #[30, 30] 30 #[.slice (some a) n n, .slice (some ⟨w2.heap.size, 0, none⟩) 1 1]).run Try.prog (w2.drew.alloc (.cells #[.string l.v.name, .int .i64 l.v.weight, .int .i64 l.v.fx, .int .i64 l.v.fy, .int .i64 l.v.tx, .int .i64 l.v.ty, .int .i64 l.v.height, .int .i64 l.v.deadline, .slice l.r.a l.r.n l.r.cap] 36)) = .ok (.slice (some ⟨w2.heap.size + 1, 0, none⟩) (n + 1) cap6) W6 := by rw [hX] at hap; exact hap
  have hap2 : (Builtin.append_ #[30, 30] 30 #[.slice (some a) n n, .slice (some ⟨w2.heap.size, 0, none⟩) 1 1]).run Try.prog (w2.alloc (.cells #[.string l.v.name, .int .i64 l.v.weight, .int .i64 l.v.fx, .int .i64 l.v.fy, .int .i64 l.v.tx, .int .i64 l.v.ty, .int .i64 l.v.height, .int .i64 l.v.deadline, .slice l.r.a l.r.n l.r.cap] 36)).drew = .ok (.slice (some ⟨w2.heap.size + 1, 0, none⟩) (n + 1) cap6) W6 := hap1
  have hb6' : Below w2.heap.size w2 W6 := hb6
  have e0 := (hb6.cell (p := ⟨w.heap.size, 0, none⟩) hg2).trans d0
  have e1 := (hb6.cell (p := ⟨w.heap.size, 1, none⟩) hg2).trans d1
  have e2 := (hb6.cell (p := ⟨w.heap.size, 2, none⟩) hg2).trans d2
  have e3 := (hb6.cell (p := ⟨w.heap.size, 3, none⟩) hg2).trans d3
  have e4 := (hb6.cell (p := ⟨w.heap.size, 4, none⟩) hg2).trans d4
  have e5 := (hb6.cell (p := ⟨w.heap.size, 5, none⟩) hg2).trans d5
  have e6 := (hb6.cell (p := ⟨w.heap.size, 6, none⟩) hg2).trans d6
  have e7 := (hb6.cell (p := ⟨w.heap.size, 7, none⟩) hg2).trans d7
  have e8 := (hb6.cell (p := ⟨w.heap.size, 8, none⟩) hg2).trans d8
  have HB6 := Lib.hid hb6
  clear hap hX hBX hXb hz0 hz1 hz2 hi hzs hW6 hb6 hb6' h6b hcap6 hpl hpn6 hpn hr hcap
  go_region_held3 (fun w' => w'.cell? ⟨w.heap.size, 0, none⟩ = some (.string l.v.name) ∧ w'.cell? ⟨w.heap.size, 1, none⟩ = some (.int .i64 l.v.weight) ∧ w'.cell? ⟨w.heap.size, 2, none⟩ = some (.int .i64 l.v.fx) ∧ w'.cell? ⟨w.heap.size, 3, none⟩ = some (.int .i64 l.v.fy) ∧ w'.cell? ⟨w.heap.size, 4, none⟩ = some (.int .i64 l.v.tx) ∧ w'.cell? ⟨w.heap.size, 5, none⟩ = some (.int .i64 l.v.ty) ∧ w'.cell? ⟨w.heap.size, 6, none⟩ = some (.int .i64 l.v.height) ∧ w'.cell? ⟨w.heap.size, 7, none⟩ = some (.int .i64 l.v.deadline) ∧ w'.cell? ⟨w.heap.size, 8, none⟩ = some (.slice l.r.a l.r.n l.r.cap)) (first | exact ⟨d0, d1, d2, d3, d4, d5, d6, d7, d8⟩ | exact ⟨e0, e1, e2, e3, e4, e5, e6, e7, e8⟩ | exact ⟨f0, f1, f2, f3, f4, f5, f6, f7, f8⟩ | go_keep) ((first | (refine step_append_run (by rfl) _ _ _ (by rfl) _ _ _ W6 (by rfl) (by rfl) hap1 ?_) | (refine step_append_run (by rfl) _ _ _ (by rfl) _ _ _ W6 (by rfl) (by rfl) hap2 ?_) | (go_at_call 88; refine (cloneLifts_any _ _ _ (ps ++ [l]) W6 0 HLF.out (by omega) HPN6.out).mono ?_; rintro e w7 ⟨A7, c7, ps7, rfl, v7, n7, o7, hb7⟩; have f0 := (hb7.cell (p := ⟨w.heap.size, 0, none⟩) (show w.heap.size < _ by omega)).trans e0; have f1 := (hb7.cell (p := ⟨w.heap.size, 1, none⟩) (show w.heap.size < _ by omega)).trans e1; have f2 := (hb7.cell (p := ⟨w.heap.size, 2, none⟩) (show w.heap.size < _ by omega)).trans e2; have f3 := (hb7.cell (p := ⟨w.heap.size, 3, none⟩) (show w.heap.size < _ by omega)).trans e3; have f4 := (hb7.cell (p := ⟨w.heap.size, 4, none⟩) (show w.heap.size < _ by omega)).trans e4; have f5 := (hb7.cell (p := ⟨w.heap.size, 5, none⟩) (show w.heap.size < _ by omega)).trans e5; have f6 := (hb7.cell (p := ⟨w.heap.size, 6, none⟩) (show w.heap.size < _ by omega)).trans e6; have f7 := (hb7.cell (p := ⟨w.heap.size, 7, none⟩) (show w.heap.size < _ by omega)).trans e7; have f8 := (hb7.cell (p := ⟨w.heap.size, 8, none⟩) (show w.heap.size < _ by omega)).trans e8)))
  have B6 := B2.trans (HB6.out.mono B2.size)
  have B7 := B6.trans (hb7.mono B6.size)
  have HV7 : Hid (ps7.map Lift.val = vs ++ [l.val]) := by show _ = _; rw [v7, List.map_append, HV.out]; rfl
  have HW7 : Hid (∀ q ∈ ps7, q.wf) := by
    intro q hq
    obtain ⟨p, hp, e⟩ := mem_same v7 hq
    simp only [Lift.val, Prod.mk.injEq] at e
    have hpw : p.wf := by
      rcases List.mem_append.1 hp with hp | hp
      · exact HP.out p hp
      · rw [List.mem_singleton] at hp; subst hp; exact hl
    exact ⟨by rw [← e.1]; exact hpw.v, by have := n7 q hq; omega, trivial⟩
  have HN7 := Lib.hid n7
  have HO7 := Lib.hid o7
  have HLV : Hid ((vs ++ [l.val]).length = n + 1) := by show _ = _; rw [List.length_append, HL.out]; rfl
  have HH3 : Hid (¬ 10 ≤ vs.length) := by show ¬ _; rw [HL.out]; exact h3
  have hs67 := hb7.size
  have hs06 := B6.size
  clear d0 d1 d2 d3 d4 d5 d6 d7 d8 e0 e1 e2 e3 e4 e5 e6 e7 e8 f0 f1 f2 f3 f4 f5 f6 f7 f8 v7 n7 o7 hb7 hap1 hap2
  go_wp2_with fail
  refine (validLifts_any A7 (n + 1) c7 ps7 (vs ++ [l.val]) HV7.out w7 _ (HO7.out.arr Lift.cs_len ic_len) (by omega) HW7.out).mono ?_
  rintro e w8 ⟨rfl, hb8⟩
  have HB8 := Lib.hid (B7.trans (hb8.mono B7.size))
  have HO8 : Hid (LiftsOwn w8 w.heap.size w8.heap.size A7 (n + 1) ps7) := by
    obtain ⟨mid, f, a1, a2, a3, a4⟩ := HO7.out.bel hb8
    exact ⟨mid, f, by omega, Nat.le_trans a2 hb8.size, a3.wide hs06 (Nat.le_refl _), a4.more hb8.size⟩
  clear hb8
  cases h5 : liftsOk (vs ++ [l.val])
  · have H := Lib.hid (al_6 (v := l.val) H1.out (by have := H2.out; show ¬ 0 ≤ fIdx (nameIs l.v.name) vs; omega) HH3.out h5)
    clear h5
    go_wp2
    go_ret2
    rw [H.out.1, H.out.2]; exact RetLW.nil HB8.out
  · have H := Lib.hid (al_0 (v := l.val) H1.out (by have := H2.out; show ¬ 0 ≤ fIdx (nameIs l.v.name) vs; omega) HH3.out h5)
    clear h5
    go_wp2
    go_ret2
    rw [H.out.1, H.out.2]
    exact ⟨A7, c7, ps7, by rw [HLV.out]; rfl, HV7.out, HN7.out, by rw [HLV.out]; exact HO8.out, HB8.out⟩
end Go.Proofs.Ytbklbhbjlbojdaa
