/- Made by merge.py of XHv1, XHv2, XHv3, XHv4, XHv5, XHv7. -/
import Derived.Test.YtkegncanmfmmmaaDoorCranes
import Derived.Test.YtkegncanmfmmmaaDoorDrawLifts
import Derived.Test.YtkegncanmfmmmaaDoorSteps
import Derived.RegionTactic
import Derived.Deep.RegionLaw
import Derived.Test.YtkegncanmfmmmaaDoorSites
/- XHv1: Drawn charts: l03Draw of the reference: a valid chart that ends within the jib. -/
namespace Go.Proofs.YtkegncanmfmmmaaDoor
open Go.RowKit
set_option linter.unusedVariables false

/-- a chart that is being drawn: its last radius, the load to come -/
structure ChD (most : Int) (out : List ChartStep) (r load : Int) : Prop where
  ok : allTo (stepAt out) out.length = true
  rb : 20 ≤ r ∧ r ≤ most
  ld : 0 ≤ load ∧ load ≤ 11000
  nil : out = [] → r = 20
  last : ∀ s, out[out.length - 1]? = some s → s.radius = r ∧ load ≤ s.load
theorem stepAt_mono {out : List ChartStep} {y : ChartStep} {i : Nat} (h : i < out.length) : stepAt (out ++ [y]) i = stepAt out i := by
  have e : ∀ j, j ≤ i → (out ++ [y])[j]? = out[j]? := fun j hj => List.getElem?_append_left (by omega)
  unfold stepAt
  rw [e i (Nat.le_refl _)]
  cases out[i]? with
  | none => rfl
  | some s =>
    cases i with
    | zero => rfl
    | succ j => simp only [upB, e j (by omega)]
theorem ChD.start {most load : Int} (hm : 200 ≤ most) (hl : 0 ≤ load ∧ load ≤ 11000) : ChD most [] 20 load := ⟨rfl, by omega, hl, fun _ => rfl, fun s h => by simp at h⟩
theorem ChD.snoc {most r load r' load' : Int} {out : List ChartStep} (h : ChD most out r load) (hm : most ≤ 1000) (h1 : r < r' ∧ r' ≤ most) (h2 : 0 ≤ load' ∧ load' ≤ load) : ChD most (out ++ [⟨r', load⟩]) r' load' := by
  obtain ⟨ok, hr, hl, hnil, hlast⟩ := h
  refine ⟨?_, by omega, by omega, fun e => by simp at e, fun s hs => ?_⟩
  · rw [List.length_append, List.length_singleton, allTo_iff]
    intro i hi
    by_cases hlt : i < out.length
    · rw [stepAt_mono hlt]; exact allTo_iff.1 ok i hlt
    · obtain rfl : i = out.length := by omega
      have hx : (out ++ [(⟨r', load⟩ : ChartStep)])[out.length]? = some ⟨r', load⟩ := by simp
      rw [stepAt_of hx, inB_true.2 (show 1 ≤ r' ∧ r' ≤ 1000 by omega), inB_true.2 (show 0 ≤ load ∧ load ≤ 50000 by omega)]
      show upB _ out.length _ = true
      cases ho : out.length with
      | zero => rfl
      | succ j =>
        have hj : out[j]? = some out[j] := List.getElem?_eq_getElem (by omega)
        have hj2 : (out ++ [(⟨r', load⟩ : ChartStep)])[j]? = some out[j] := by rw [List.getElem?_append_left (by omega)]; exact hj
        rw [upB_succ hj2]
        have := hlast out[j] (by rw [show out.length - 1 = j by omega]; exact hj)
        rw [Bool.and_eq_true]
        exact ⟨decide_eq_true (show out[j].radius < r' by omega), decide_eq_true (show load ≤ out[j].load by omega)⟩
  · simp at hs
    subst hs
    exact ⟨rfl, h2.2⟩
theorem ChD.chart {most r load : Int} {out : List ChartStep} (h : ChD most out r load) (h1 : 1 ≤ out.length) (h2 : out.length ≤ 20) : chartOk out = true ∧ lastR out ≤ most := by
  refine ⟨?_, ?_⟩
  · rw [chartOk_end rfl h.ok]; exact inB_true.2 (by omega)
  · unfold lastR
    have hj : out[out.length - 1]? = some out[out.length - 1] := List.getElem?_eq_getElem (by omega)
    rw [hj]
    have := (h.last _ hj).1
    have := h.rb
    show out[out.length - 1].radius ≤ most
    omega
theorem min_any (a b : Int) (w : World) {v : Int} (hv : (if a < b then a else b) = v) : Calls Tryd.prog 147 #[.int .i64 a, .int .i64 b] w fun e w' => e = .returned (.int .i64 v) ∧ w = w' := by
  subst hv
  by_cases h : a < b
  · rw [if_pos h]
    go_enter Tryd.func147, Tryd.ntmps147
    go_wp2
    go_ret
    exact ⟨rfl, rfl⟩
  · rw [if_neg h]
    go_enter Tryd.func147, Tryd.ntmps147
    go_wp2
    go_ret
    exact ⟨rfl, rfl⟩
theorem max_any (a b : Int) (w : World) {v : Int} (hv : max a b = v) : Calls Tryd.prog 148 #[.int .i64 a, .int .i64 b] w fun e w' => e = .returned (.int .i64 v) ∧ w = w' := by
  subst hv
  by_cases h : b < a
  · go_enter Tryd.func148, Tryd.ntmps148
    go_wp2
    go_ret
    exact ⟨ret_int (by omega), rfl⟩
  · go_enter Tryd.func148, Tryd.ntmps148
    go_wp2
    go_ret
    exact ⟨ret_int (by omega), rfl⟩
/-- a chart that has been drawn -/
def DrawnCh (g B : Nat) (A : Option Addr) (n : Nat) (xs : List Int) (m : Nat) (most : Int) (w : World) (e : Ending) (w' : World) : Prop :=
  ∃ A' c ys, e = .returned (.slice A' ys.length c) ∧ Own ChartStep.cs 2 w' w.heap.size w'.heap.size 162 A' ys.length ys ∧ ys.length ≤ c ∧ c ≤ 9223372036854775807 ∧ chartOk ys = true ∧ lastR ys ≤ most ∧ ys.length ≤ 5 ∧ Src w' g B A n xs m ∧ Within g (g + 1) w w'
set_option maxRecDepth 100000 in
set_option maxHeartbeats 3200000 in
theorem l03Draw_any (g B : Nat) (A : Option Addr) (n : Nat) (xs : List Int) (m : Nat) (hm : m ≤ 880000) (hn : n ≤ 1000000) (most : Int) (hm1 : 200 ≤ most) (hm2 : most ≤ 1000) (w : World) (h : Src w g B A n xs m) :
    Calls Tryd.prog 120 #[.pointer (some ⟨g, 0, none⟩), .int .i64 most] w (DrawnCh g B A n xs (m + 24) most w) := by
  have hg := h.lt
  obtain ⟨W, hW⟩ : ∃ W : World, W = w.alloc (.cells #[] 162) := ⟨_, rfl⟩
  have hb : Below w.heap.size w W := by rw [hW]; exact (Below.refl _ _).alloc (Nat.le_refl _) _
  have hG : Grow ChartStep.cs 2 W w.heap.size 162 (.slice (some ⟨w.heap.size, 0, none⟩) 0 0) [] := by rw [hW]; exact Grow.empty _ _ _ (Nat.le_refl _)
  have hwb : Within g (g + 1) w W := .of_below _ _ hb
  go_enter Tryd.func120, Tryd.ntmps120
  go_wp2_with fail
  rw [← hW]
  clear hW
  refine (pick_any g B A n xs m (by omega) hn 9000 (by omega) (by omega) W (h.bel hb)).mono ?_
  rintro e w1 ⟨x, rfl, hx0, hx1, hs1, hw1⟩
  have hG1 := hG.far2 hw1 hg
  have hwt1 := hwb.trans hw1
  clear hG hwb hb h hw1
  go_wp2_with fail
  refine (pick_any g B A n xs (m + 2) (by omega) hn 5 (by omega) (by omega) w1 hs1).mono ?_
  rintro e w2 ⟨k0, rfl, hk0, hk1, hs2, hw2⟩
  have HG2 := Lib.hid (hG1.far2 hw2 hg)
  have HT2 := Lib.hid (hwt1.trans hw2)
  have HS2 := Lib.hid hs2
  obtain ⟨K, rfl⟩ := Int.eq_ofNat_of_zero_le hk0
  have hK : K ≤ 4 := by omega
  have HC0 := Lib.hid (ChD.start (most := most) (load := 2000 + x) hm1 (by omega))
  clear hG1 hwt1 hs1 hs2 hw2 hk0 hk1
  go_wp2
  go_loopw [5, 6, 7, 8] (fun v rv lv kv wr => ∃ (k : Nat) (r load : Int) (out : List ChartStep), out.length + k = K + 1 ∧ kv = .int .i64 (k : Int) ∧ rv = .int .i64 r ∧ lv = .int .i64 load ∧ Grow ChartStep.cs 2 wr w.heap.size 162 v out ∧ ChD most out r load ∧ Src wr g B A n xs (m + 4 + 4 * out.length) ∧ Within g (g + 1) w wr) (fun _ _ _ kv _ => (intOf kv).toNat)
  case atStart => exact ⟨K + 1, 20, 2000 + x, [], by simp, by go_num, rfl, by go_num, HG2.out, HC0.out, HS2.out.more (by omega), HT2.out⟩
  case round =>
    obtain ⟨k, r, load, out, hk, rfl, rfl, rfl, hgr, hch, hsr, hwr⟩ := hrel
    have hol : out.length ≤ 5 := by omega
    have HC := Lib.hid hch
    have hr1 := hch.rb
    have hl1 := hch.ld
    clear hch
    by_cases hk0 : 0 < k
    · have hk1 : (0 : Int) < (k : Int) := by omega
      by_cases hrm : r < most
      · have HG := Lib.hid hgr
        have HW := Lib.hid hwr
        clear hgr hwr HG2 HT2 HS2
        go_wp2_with fail
        refine (pick_any g B A n xs (m + 4 + 4 * out.length) (by omega) hn 150 (by omega) (by omega) _ hsr).mono ?_
        rintro e w3 ⟨y, rfl, hy0, hy1, hs3, hw3⟩
        have hz := HW.out.size
        have HG3 := Lib.hid (HG.out.far2 hw3 hg)
        have HW3 := Lib.hid (HW.out.trans hw3)
        obtain ⟨r', hr'⟩ : ∃ r', (if most < r + 20 + y then most else r + 20 + y) = r' := ⟨_, rfl⟩
        have hr'1 : r < r' ∧ r' ≤ most := by rw [← hr']; split <;> omega
        have HR' := Lib.hid hr'
        clear hw3 hr' hsr
        go_wp2_with fail
        refine (min_any _ _ _ HR'.out).mono ?_
        rintro _ _ ⟨rfl, rfl⟩
        obtain ⟨W4, hW4⟩ : ∃ W4 : World, W4 = w3.alloc (.cells #[.int .i64 r', .int .i64 load] 162) := ⟨_, rfl⟩
        have hb4 : Below w3.heap.size w3 W4 := by rw [hW4]; exact (Below.refl _ _).alloc (Nat.le_refl _) _
        have HG4 := Lib.hid (HG3.out.bel hb4)
        have HS4 := Lib.hid (hs3.bel hb4)
        have HW4 := Lib.hid (HW3.out.trans (.of_below _ _ hb4))
        have HE4 := Lib.hid hW4
        have hz3 := HW3.out.size
        have hz4 := HW4.out.size
        clear hb4 hW4 hs3
        go_wp2_with (at_builtin; rw [← HE4.out]; refine wpList_snoc _ rfl _ _ 36 rfl w.heap.size 162 _ _ Tryd.underlying36 ChartStepInfo rfl (by omega) _ out ⟨r', load⟩ rfl HG4.out _ _ rfl (by rw [HE4.out]; exact heap_new_at _ _ (by simp)) rfl rfl (ChartStep.cs_one _) (by omega) (by omega) (by omega) ?_; intro v' w5 hg5 hgr5; have HS5 := Lib.hid (HS4.out.grown hgr5 (fun u e9 => by have := HG4.out.lt u e9; omega)); have HT5 := Lib.hid (HG4.out.within HW4.out hgr5 (Nat.le_refl _)); have HG5 := Lib.hid hg5; clear hg5 hgr5)
        have hz5 := HT5.out.size
        clear HG3 HW3 HG4 HS4 HW4 HE4
        refine (pick_any g B A n xs (m + 4 + 4 * out.length + 2) (by omega) hn 2500 (by omega) (by omega) _ HS5.out).mono ?_
        rintro e w6 ⟨u, rfl, hu0, hu1, hs6, hw6⟩
        have HG6 := Lib.hid (HG5.out.far2 hw6 hg)
        have HT6 := Lib.hid (HT5.out.trans hw6)
        have HS6 := Lib.hid hs6
        obtain ⟨l', hl'⟩ : ∃ l', max 0 (load - u) = l' := ⟨_, rfl⟩
        have hl'1 : 0 ≤ l' ∧ l' ≤ load := by omega
        have HL' := Lib.hid hl'
        clear hs6 hw6 hl' HG5 HT5 HS5
        go_wp2_with fail
        refine (max_any _ _ _ HL'.out).mono ?_
        rintro _ _ ⟨rfl, rfl⟩
        go_wp2
        go_roundw
        case rel => exact ⟨k - 1, r', l', out ++ [⟨r', load⟩], by simp; omega, by go_num, rfl, rfl, HG6.out, HC.out.snoc hm2 hr'1 hl'1, HS6.out.more (by simp; omega), HT6.out⟩
        case measure => simp [intOf]; omega
      · have ho : 1 ≤ out.length := by
          rcases Nat.eq_zero_or_pos out.length with h0 | h0
          · have := HC.out.nil (List.length_eq_zero_iff.1 h0); omega
          · exact h0
        obtain ⟨A', cap, hv0, hc1, hc2⟩ := hgr.slice
        obtain ⟨A2, cap2, rfl, hown⟩ := hgr.own ChartStep.cs_len
        injection hv0 with e1 e2 e3
        subst e1
        subst e3
        have HF : Hid (DrawnCh g B A n xs (m + 24) most w (.returned (.slice A2 out.length cap2)) wr) := ⟨A2, cap2, out, rfl, hown, hc1, hc2, (HC.out.chart ho (by omega)).1, (HC.out.chart ho (by omega)).2, hol, hsr.more (by omega), hwr⟩
        clear hgr hown hsr hwr HC HG2 HT2 HS2
        go_wp2
        go_ret
        exact HF.out
    · obtain rfl : k = 0 := by omega
      obtain ⟨A', cap, hv0, hc1, hc2⟩ := hgr.slice
      obtain ⟨A2, cap2, rfl, hown⟩ := hgr.own ChartStep.cs_len
      injection hv0 with e1 e2 e3
      subst e1
      subst e3
      have HF : Hid (DrawnCh g B A n xs (m + 24) most w (.returned (.slice A2 out.length cap2)) wr) := ⟨A2, cap2, out, rfl, hown, hc1, hc2, (HC.out.chart (by omega) (by omega)).1, (HC.out.chart (by omega) (by omega)).2, hol, hsr.more (by omega), hwr⟩
      clear hgr hown hsr hwr HC HG2 HT2 HS2
      go_wp2
      go_ret
      exact HF.out
end Go.Proofs.YtkegncanmfmmmaaDoor
/- XHv2: Drawn cranes: l04Draw of the reference: valid ones. -/
namespace Go.Proofs.YtkegncanmfmmmaaDoor
open Go.RowKit
set_option linter.unusedVariables false

section
variable {V : World} {b : Nat}
def putC (V : World) (b : Nat) (v0 v1 v2 v3 v4 v5 v6 : Value) : World := ((((((V.setCell ⟨b, 0, none⟩ v0).setCell ⟨b, 1, none⟩ v1).setCell ⟨b, 2, none⟩ v2).setCell ⟨b, 3, none⟩ v3).setCell ⟨b, 4, none⟩ v4).setCell ⟨b, 5, none⟩ v5).setCell ⟨b, 6, none⟩ v6
theorem putC_eq (V : World) (b : Nat) (v0 v1 v2 v3 v4 v5 v6 : Value) : ((((((V.setCell ⟨b, 0, none⟩ v0).setCell ⟨b, 1, none⟩ v1).setCell ⟨b, 2, none⟩ v2).setCell ⟨b, 3, none⟩ v3).setCell ⟨b, 4, none⟩ v4).setCell ⟨b, 5, none⟩ v5).setCell ⟨b, 6, none⟩ v6 = putC V b v0 v1 v2 v3 v4 v5 v6 := rfl
theorem putC_blk {z0 z1 z2 z3 z4 z5 z6 : Value} (h : Blk V b 38 #[z0, z1, z2, z3, z4, z5, z6]) (v0 v1 v2 v3 v4 v5 v6 : Value) : Blk (putC V b v0 v1 v2 v3 v4 v5 v6) b 38 #[v0, v1, v2, v3, v4, v5, v6] := by
  have h0 : Blk (V.setCell ⟨b, 0, none⟩ v0) b 38 #[v0, z1, z2, z3, z4, z5, z6] := h.set_lit (i := 0) (u := v0) rfl
  have h1 : Blk ((V.setCell ⟨b, 0, none⟩ v0).setCell ⟨b, 1, none⟩ v1) b 38 #[v0, v1, z2, z3, z4, z5, z6] := h0.set_lit (i := 1) (u := v1) rfl
  have h2 : Blk (((V.setCell ⟨b, 0, none⟩ v0).setCell ⟨b, 1, none⟩ v1).setCell ⟨b, 2, none⟩ v2) b 38 #[v0, v1, v2, z3, z4, z5, z6] := h1.set_lit (i := 2) (u := v2) rfl
  have h3 : Blk ((((V.setCell ⟨b, 0, none⟩ v0).setCell ⟨b, 1, none⟩ v1).setCell ⟨b, 2, none⟩ v2).setCell ⟨b, 3, none⟩ v3) b 38 #[v0, v1, v2, v3, z4, z5, z6] := h2.set_lit (i := 3) (u := v3) rfl
  have h4 : Blk (((((V.setCell ⟨b, 0, none⟩ v0).setCell ⟨b, 1, none⟩ v1).setCell ⟨b, 2, none⟩ v2).setCell ⟨b, 3, none⟩ v3).setCell ⟨b, 4, none⟩ v4) b 38 #[v0, v1, v2, v3, v4, z5, z6] := h3.set_lit (i := 4) (u := v4) rfl
  have h5 : Blk ((((((V.setCell ⟨b, 0, none⟩ v0).setCell ⟨b, 1, none⟩ v1).setCell ⟨b, 2, none⟩ v2).setCell ⟨b, 3, none⟩ v3).setCell ⟨b, 4, none⟩ v4).setCell ⟨b, 5, none⟩ v5) b 38 #[v0, v1, v2, v3, v4, v5, z6] := h4.set_lit (i := 5) (u := v5) rfl
  have h6 : Blk (((((((V.setCell ⟨b, 0, none⟩ v0).setCell ⟨b, 1, none⟩ v1).setCell ⟨b, 2, none⟩ v2).setCell ⟨b, 3, none⟩ v3).setCell ⟨b, 4, none⟩ v4).setCell ⟨b, 5, none⟩ v5).setCell ⟨b, 6, none⟩ v6) b 38 #[v0, v1, v2, v3, v4, v5, v6] := h5.set_lit (i := 6) (u := v6) rfl
  exact h6
theorem putC_self (V : World) (b : Nat) (v0 v1 v2 v3 v4 v5 v6 : Value) : Within b (b + 1) V (putC V b v0 v1 v2 v3 v4 v5 v6) := by
  unfold putC
  exact self_set (self_set (self_set (self_set (self_set (self_set (self_set (Within.refl b (b + 1) V) 0 v0) 1 v1) 2 v2) 3 v3) 4 v4) 5 v5) 6 v6
theorem putC_within {lo hi : Nat} {a : World} (h : Within lo hi a V) (hb : a.heap.size ≤ b) (v0 v1 v2 v3 v4 v5 v6 : Value) : Within lo hi a (putC V b v0 v1 v2 v3 v4 v5 v6) := by
  unfold putC
  exact fresh_set (fresh_set (fresh_set (fresh_set (fresh_set (fresh_set (fresh_set (h) hb 0 v0) hb 1 v1) hb 2 v2) hb 3 v3) hb 4 v4) hb 5 v5) hb 6 v6
end
/-- what is known of a drawn crane -/
structure DrawnP (name : ByteArray) (p : Crane) : Prop where
  nm : p.v.name = name
  pos : (-600 ≤ p.v.ax ∧ p.v.ax ≤ 600) ∧ (-600 ≤ p.v.ay ∧ p.v.ay ≤ 600)
  ok : nmOk name = true → craneOk p.val = true
  len : p.r.n ≤ 5
  cap : p.r.n ≤ p.r.cap ∧ p.r.cap ≤ 9223372036854775807
  wf : name.size ≤ 20 → p.wf
theorem drawnP {name : ByteArray} {x y h j k : Int} {A : Option Addr} {c : Nat} {ys : List ChartStep} (hx : -600 ≤ x ∧ x ≤ 600) (hy : -600 ≤ y ∧ y ≤ 600) (hh : 200 ≤ h ∧ h ≤ 599) (hj : 200 ≤ j ∧ j ≤ 599) (hk : 0 ≤ k ∧ k ≤ 149) (h1 : ys.length ≤ c) (h2 : c ≤ 9223372036854775807) (h3 : chartOk ys = true) (h4 : lastR ys ≤ j) (h5 : ys.length ≤ 5) :
    DrawnP name ⟨⟨name, x, y, h, j, k⟩, ⟨A, ys.length, c, ys⟩⟩ := by
  refine ⟨rfl, ⟨hx, hy⟩, fun hn => ?_, h5, ⟨h1, h2⟩, fun hn => ?_⟩
  · show craneOk (⟨name, x, y, h, j, k⟩, ys) = true
    unfold craneOk craneHd plcB
    rw [hn, h3, inB_true.2 (show -10000 ≤ x ∧ x ≤ 10000 by omega), inB_true.2 (show -10000 ≤ y ∧ y ≤ 10000 by omega), inB_true.2 (show 1 ≤ h ∧ h ≤ 2000 by omega), inB_true.2 (show 1 ≤ j ∧ j ≤ 1000 by omega), inB_true.2 (show 0 ≤ k ∧ k ≤ j by omega), decide_eq_true h4]
    rfl
  · refine ⟨⟨by show name.size ≤ _; omega, by show _ ≤ x ∧ x ≤ _; omega, by show _ ≤ y ∧ y ≤ _; omega, by show _ ≤ h ∧ h ≤ _; omega, by show _ ≤ j ∧ j ≤ _; omega, by show _ ≤ k ∧ k ≤ _; omega⟩, by show ys.length ≤ _; omega, fun s hs => ?_⟩
    obtain ⟨i, hi, rfl⟩ := List.getElem_of_mem hs
    have := chartOk_at h3 (List.getElem?_eq_getElem hi)
    exact ⟨by omega, by omega⟩
def DrawnC (g B : Nat) (A : Option Addr) (n : Nat) (xs : List Int) (m : Nat) (name : ByteArray) (w : World) (e : Ending) (w' : World) : Prop :=
  ∃ p : Crane, e = .returned (.agg #[.string p.v.name, .int .i64 p.v.ax, .int .i64 p.v.ay, .int .i64 p.v.height, .int .i64 p.v.jib, .int .i64 p.v.back, .slice p.r.a p.r.n p.r.cap]) ∧ DrawnP name p ∧ Own ChartStep.cs 2 w' w.heap.size w'.heap.size 162 p.r.a p.r.n p.r.xs ∧ Src w' g B A n xs m ∧ Within g (g + 1) w w'
theorem crane_end (g B : Nat) (A : Option Addr) (n : Nat) (xs : List Int) (m : Nat) (name : ByteArray) (w : World) (p : Crane) (a : Act) (W' : World) (h4 : a.tmps.getD 4 undef = .pointer (some ⟨w.heap.size, 0, none⟩)) (hd : a.defers = [])
    (hB : Blk W' w.heap.size 38 #[.string p.v.name, .int .i64 p.v.ax, .int .i64 p.v.ay, .int .i64 p.v.height, .int .i64 p.v.jib, .int .i64 p.v.back, .slice p.r.a p.r.n p.r.cap]) (h1 : DrawnP name p) (h9 : Own ChartStep.cs 2 W' w.heap.size W'.heap.size 162 p.r.a p.r.n p.r.xs) (h2 : Src W' g B A n xs m) (h3 : Within g (g + 1) w W') :
    bodyPost Tryd.prog Tryd.f73 (DrawnC g B A n xs m name w) Exit.ret a W' := by
  obtain ⟨c0, c1, c2, c3, c4, c5, c6⟩ := Crane.blk hB
  obtain ⟨tmps, defers⟩ := a
  dsimp only at h4 hd
  subst hd
  have k4 : tmps[4]?.getD undef = .pointer (some ⟨w.heap.size, 0, none⟩) := by simpa using h4
  exact bodyPost_ret (v := .agg #[.string p.v.name, .int .i64 p.v.ax, .int .i64 p.v.ay, .int .i64 p.v.height, .int .i64 p.v.jib, .int .i64 p.v.back, .slice p.r.a p.r.n p.r.cap]) (by simp [results, Tryd.results73, go_sem, k4, c0, c1, c2, c3, c4, c5, c6]) rfl ⟨p, rfl, h1, h9, h2, h3⟩
set_option maxRecDepth 100000 in
set_option maxHeartbeats 3200000 in
theorem l04Draw_any (g B : Nat) (A : Option Addr) (n : Nat) (xs : List Int) (m : Nat) (hm : m ≤ 800000) (hn : n ≤ 1000000) (name : ByteArray) (w : World) (h : Src w g B A n xs m) :
    Calls Tryd.prog 73 #[.pointer (some ⟨g, 0, none⟩), .string name] w (DrawnC g B A n xs (m + 34) name w) := by
  have hg := h.lt
  obtain ⟨W, hW⟩ : ∃ W : World, W = w.alloc (.cells #[.string ⟨#[]⟩, .int .i64 0, .int .i64 0, .int .i64 0, .int .i64 0, .int .i64 0, .slice none 0 0] 38) := ⟨_, rfl⟩
  have hb : Below w.heap.size w W := by rw [hW]; exact (Below.refl _ _).alloc (Nat.le_refl _) _
  have hB : Blk W w.heap.size 38 #[.string ⟨#[]⟩, .int .i64 0, .int .i64 0, .int .i64 0, .int .i64 0, .int .i64 0, .slice none 0 0] := by rw [hW]; exact Blk.new _ _ _
  have hwb : Within g (g + 1) w W := .of_below _ _ hb
  have hWs : w.heap.size < W.heap.size := hB.lt
  go_enter Tryd.func73, Tryd.ntmps73
  go_wp2_with fail
  rw [← hW]
  clear hW
  refine (l02Draw_any g B A n xs m (by omega) hn W (h.bel hb)).mono ?_
  rintro e w1 ⟨x, y, rfl, hx0, hx1, hy0, hy1, hs1, hw1⟩
  have hB1 := hB.after hw1 (by omega)
  have hws1 := hw1.size
  obtain ⟨W2, hW2⟩ : ∃ W2 : World, W2 = w1.alloc (.cells #[.string name, .int .i64 x, .int .i64 y, .int .i64 0, .int .i64 0, .int .i64 0, .slice none 0 0] 38) := ⟨_, rfl⟩
  have hb2 : Below w1.heap.size w1 W2 := by rw [hW2]; exact (Below.refl _ _).alloc (Nat.le_refl _) _
  have hP2' : Blk W2 w1.heap.size 38 #[.string name, .int .i64 x, .int .i64 y, .int .i64 0, .int .i64 0, .int .i64 0, .slice none 0 0] := by rw [hW2]; exact Blk.new _ _ _
  have hws2 : w1.heap.size < W2.heap.size := hP2'.lt
  have hB2' := hB1.bel hb2
  have hwt2 := (hwb.trans hw1).trans (.of_below _ _ hb2)
  have hS2 := hs1.bel hb2
  obtain ⟨b, hbq⟩ : ∃ b, w1.heap.size = b := ⟨_, rfl⟩
  go_wp2_with fail
  rw [← hW2]
  clear hW2
  rw [hbq] at hP2' hws2 hb2
  have hgb : g ≠ b := by omega
  have hwb0 : w.heap.size ≤ b := by omega
  have hwbn : w.heap.size ≠ b := by omega
  clear hB1 hws1 hw1 hs1 hwb hb h hB hb2
  refine (pick_any g B A n xs (m + 4) (by omega) hn 400 (by omega) (by omega) W2 hS2).mono ?_
  rintro e w3 ⟨h, rfl, hh0, hh1, hs3, hw3⟩
  have hP3 := hP2'.after hw3 hgb
  have hB3 := hB2'.after hw3 (by omega)
  have hz3 := hw3.size
  have c3 : w3.cell? ⟨b, 3, none⟩ = some (.int .i64 0) := hP3.cell 3
  have f3 := hP3.frozen 3
  obtain ⟨W3, hW3⟩ : ∃ W3 : World, W3 = w3.setCell ⟨b, 3, none⟩ (.int .i64 (200 + h)) := ⟨_, rfl⟩
  have hP3' : Blk W3 b 38 #[.string name, .int .i64 x, .int .i64 y, .int .i64 (200 + h), .int .i64 0, .int .i64 0, .slice none 0 0] := by rw [hW3]; exact hP3.set_lit (i := 3) (u := .int .i64 (200 + h)) rfl
  have hwi3 : Within b (b + 1) w3 W3 := by rw [hW3]; exact (Within.refl _ _ _).setCell (p := ⟨b, 3, none⟩) (Nat.le_refl _) (Nat.lt_succ_self _) _
  have hS3 : Src W3 g B A n xs (m + 4 + 2) := hs3.far hwi3 (by omega)
  have hwt3 : Within g (g + 1) w W3 := by rw [hW3]; exact (hwt2.trans hw3).fresh (p := ⟨b, 3, none⟩) hwb0 _
  have hB3' : Blk W3 w.heap.size 38 #[.string ⟨#[]⟩, .int .i64 0, .int .i64 0, .int .i64 0, .int .i64 0, .int .i64 0, .slice none 0 0] := (hwi3.block w.heap.size (by omega) (by omega)).trans hB3
  have hz3' : W3.heap.size = w3.heap.size := by rw [hW3]; simp
  clear hP3 hB3 hwi3 hs3 hwt2 hw3 hS2 hP2' hB2'
  go_wp2_with fail
  rw [← hW3]
  clear hW3 c3 f3
  refine (pick_any g B A n xs (m + 4 + 2) (by omega) hn 400 (by omega) (by omega) W3 hS3).mono ?_
  rintro e w4 ⟨j, rfl, hj0, hj1, hs4, hw4⟩
  have hP4 := hP3'.after hw4 hgb
  have hB4 := hB3'.after hw4 (by omega)
  have hz4 := hw4.size
  have c4 : w4.cell? ⟨b, 4, none⟩ = some (.int .i64 0) := hP4.cell 4
  have f4 := hP4.frozen 4
  obtain ⟨W4, hW4⟩ : ∃ W4 : World, W4 = w4.setCell ⟨b, 4, none⟩ (.int .i64 (200 + j)) := ⟨_, rfl⟩
  have hP4' : Blk W4 b 38 #[.string name, .int .i64 x, .int .i64 y, .int .i64 (200 + h), .int .i64 (200 + j), .int .i64 0, .slice none 0 0] := by rw [hW4]; exact hP4.set_lit (i := 4) (u := .int .i64 (200 + j)) rfl
  have hwi4 : Within b (b + 1) w4 W4 := by rw [hW4]; exact (Within.refl _ _ _).setCell (p := ⟨b, 4, none⟩) (Nat.le_refl _) (Nat.lt_succ_self _) _
  have hS4 : Src W4 g B A n xs (m + 4 + 2 + 2) := hs4.far hwi4 (by omega)
  have hwt4 : Within g (g + 1) w W4 := by rw [hW4]; exact (hwt3.trans hw4).fresh (p := ⟨b, 4, none⟩) hwb0 _
  have hB4' : Blk W4 w.heap.size 38 #[.string ⟨#[]⟩, .int .i64 0, .int .i64 0, .int .i64 0, .int .i64 0, .int .i64 0, .slice none 0 0] := (hwi4.block w.heap.size (by omega) (by omega)).trans hB4
  have hz4' : W4.heap.size = w4.heap.size := by rw [hW4]; simp
  clear hP4 hB4 hwi4 hs4 hwt3 hw4 hS3 hP3' hB3'
  go_wp2_with fail
  rw [← hW4]
  clear hW4 c4 f4
  refine (pick_any g B A n xs (m + 4 + 2 + 2) (by omega) hn 150 (by omega) (by omega) W4 hS4).mono ?_
  rintro e w5 ⟨k, rfl, hk0, hk1, hs5, hw5⟩
  have hP5 := hP4'.after hw5 hgb
  have hB5 := hB4'.after hw5 (by omega)
  have hz5 := hw5.size
  have c5 : w5.cell? ⟨b, 5, none⟩ = some (.int .i64 0) := hP5.cell 5
  have f5 := hP5.frozen 5
  obtain ⟨W5, hW5⟩ : ∃ W5 : World, W5 = w5.setCell ⟨b, 5, none⟩ (.int .i64 (k)) := ⟨_, rfl⟩
  have hP5' : Blk W5 b 38 #[.string name, .int .i64 x, .int .i64 y, .int .i64 (200 + h), .int .i64 (200 + j), .int .i64 (k), .slice none 0 0] := by rw [hW5]; exact hP5.set_lit (i := 5) (u := .int .i64 (k)) rfl
  have hwi5 : Within b (b + 1) w5 W5 := by rw [hW5]; exact (Within.refl _ _ _).setCell (p := ⟨b, 5, none⟩) (Nat.le_refl _) (Nat.lt_succ_self _) _
  have hS5 : Src W5 g B A n xs (m + 4 + 2 + 2 + 2) := hs5.far hwi5 (by omega)
  have hwt5 : Within g (g + 1) w W5 := by rw [hW5]; exact (hwt4.trans hw5).fresh (p := ⟨b, 5, none⟩) hwb0 _
  have hB5' : Blk W5 w.heap.size 38 #[.string ⟨#[]⟩, .int .i64 0, .int .i64 0, .int .i64 0, .int .i64 0, .int .i64 0, .slice none 0 0] := (hwi5.block w.heap.size (by omega) (by omega)).trans hB5
  have hz5' : W5.heap.size = w5.heap.size := by rw [hW5]; simp
  have d4 : w5.cell? ⟨b, 4, none⟩ = some (.int .i64 (200 + j)) := hP5.cell 4
  clear hP5 hB5 hwi5 hs5 hwt4 hw5 hS4 hP4' hB4'
  have hbW : b < W5.heap.size := hP5'.lt
  have hzb : w.heap.size < W5.heap.size := hB5'.lt
  have HP5 := Lib.hid hP5'
  have HB5 := Lib.hid hB5'
  have HT5 := Lib.hid hwt5
  clear hP5' hB5' hwt5 hz3 hz4 hz5 hz3' hz4' hz5'
  go_wp2_with fail
  rw [← hW5]
  clear hW5 c5 f5
  refine (l03Draw_any g B A n xs (m + 4 + 2 + 2 + 2) (by omega) hn (200 + j) (by omega) (by omega) W5 hS5).mono ?_
  rintro e w6 ⟨A', c, ys, rfl, ho, q1, q2, q3, q4, q5, hs6, hw6⟩
  have hP6 := HP5.out.after hw6 hgb
  have hB6 := HB5.out.after hw6 (by omega)
  have hz6 := hw6.size
  have c6 : w6.cell? ⟨b, 6, none⟩ = some (.slice none 0 0) := hP6.cell 6
  have f6 := hP6.frozen 6
  have e0 : w6.cell? ⟨b, 0, none⟩ = some (.string name) := hP6.cell 0
  have e1 : w6.cell? ⟨b, 1, none⟩ = some (.int .i64 x) := hP6.cell 1
  have e2 : w6.cell? ⟨b, 2, none⟩ = some (.int .i64 y) := hP6.cell 2
  have e3 : w6.cell? ⟨b, 3, none⟩ = some (.int .i64 (200 + h)) := hP6.cell 3
  have e4 : w6.cell? ⟨b, 4, none⟩ = some (.int .i64 (200 + j)) := hP6.cell 4
  have e5 : w6.cell? ⟨b, 5, none⟩ = some (.int .i64 k) := hP6.cell 5
  obtain ⟨z0, z1, z2, z3, z4, z5, z6⟩ := Crane.blk hB6
  obtain ⟨y0, y1, y2, y3, y4, y5, y6⟩ := Crane.fro hB6
  have hwb6 : Within b (b + 1) w6 (w6.setCell ⟨b, 6, none⟩ (.slice A' ys.length c)) := (Within.refl _ _ _).setCell (p := ⟨b, 6, none⟩) (Nat.le_refl _) (Nat.lt_succ_self _) _
  have hB6' := (hwb6.block w.heap.size (by omega) (by omega)).trans hB6
  have HB6 := Lib.hid hB6'
  have HO6 := Lib.hid ho
  have HS6 := Lib.hid (hs6.far hwb6 (by omega))
  have HT6 := Lib.hid ((HT5.out.trans hw6).fresh (p := ⟨b, 6, none⟩) hwb0 (.slice A' ys.length c))
  have HWB := Lib.hid hwb6
  clear hwb6 hB6' ho hs6 hw6 hP6 hB6 d4
  go_wp2
  rw [putC_eq]
  have hself := putC_self (w6.setCell ⟨b, 6, none⟩ (.slice A' ys.length c)) w.heap.size (.string name) (.int .i64 x) (.int .i64 y) (.int .i64 (200 + h)) (.int .i64 (200 + j)) (.int .i64 k) (.slice A' ys.length c)
  refine crane_end g B A n xs (m + 34) name w ⟨⟨name, x, y, 200 + h, 200 + j, k⟩, ⟨A', ys.length, c, ys⟩⟩ _ _ rfl rfl (putC_blk HB6.out _ _ _ _ _ _ _) (drawnP ⟨hx0, hx1⟩ ⟨hy0, hy1⟩ (by omega) (by omega) (by omega) q1 q2 q3 q4 q5) ?_ ((HS6.out.far hself (by omega)).more (by omega)) (putC_within HT6.out (Nat.le_refl _) _ _ _ _ _ _ _)
  exact ((HO6.out.within HWB.out (.inr (by omega))).within hself (.inr (by omega))).wide (by omega) (Nat.le_trans HWB.out.size hself.size)
end Go.Proofs.YtkegncanmfmmmaaDoor
/- XHv3: A copy of a crane: l04Own of the reference. -/
namespace Go.Proofs.YtkegncanmfmmmaaDoor
open Go.RowKit
set_option linter.unusedVariables false

theorem putC_below {lo b : Nat} {a V : World} (h : RowKit.Below lo a V) (hb : lo ≤ b) (v0 v1 v2 v3 v4 v5 v6 : Value) : RowKit.Below lo a (putC V b v0 v1 v2 v3 v4 v5 v6) := by
  unfold putC
  exact ((((((h.setCell (p := ⟨b, 0, none⟩) hb v0).setCell (p := ⟨b, 1, none⟩) hb v1).setCell (p := ⟨b, 2, none⟩) hb v2).setCell (p := ⟨b, 3, none⟩) hb v3).setCell (p := ⟨b, 4, none⟩) hb v4).setCell (p := ⟨b, 5, none⟩) hb v5).setCell (p := ⟨b, 6, none⟩) hb v6
def OwnC (p : Crane) (w : World) (e : Ending) (w' : World) : Prop :=
  ∃ A' c, e = .returned (.agg #[.string p.v.name, .int .i64 p.v.ax, .int .i64 p.v.ay, .int .i64 p.v.height, .int .i64 p.v.jib, .int .i64 p.v.back, .slice A' p.r.n c]) ∧ Own ChartStep.cs 2 w' w.heap.size w'.heap.size 162 A' p.r.n p.r.xs ∧ p.r.n ≤ c ∧ c ≤ 9223372036854775807 ∧ RowKit.Below w.heap.size w w'
theorem own_end (p : Crane) (w : World) (a : Act) (W' : World) (A' : Option Addr) (c : Nat) (h2 : a.tmps.getD 2 undef = .pointer (some ⟨w.heap.size, 0, none⟩)) (hd : a.defers = [])
    (hB : Blk W' w.heap.size 38 #[.string p.v.name, .int .i64 p.v.ax, .int .i64 p.v.ay, .int .i64 p.v.height, .int .i64 p.v.jib, .int .i64 p.v.back, .slice A' p.r.n c]) (h9 : Own ChartStep.cs 2 W' w.heap.size W'.heap.size 162 A' p.r.n p.r.xs) (h5 : p.r.n ≤ c) (h6 : c ≤ 9223372036854775807) (h3 : RowKit.Below w.heap.size w W') :
    bodyPost Tryd.prog Tryd.f119 (OwnC p w) Exit.ret a W' := by
  obtain ⟨c0, c1, c2, c3, c4, c5, c6⟩ := Crane.blk hB
  obtain ⟨tmps, defers⟩ := a
  dsimp only at h2 hd
  subst hd
  have k2 : tmps[2]?.getD undef = .pointer (some ⟨w.heap.size, 0, none⟩) := by simpa using h2
  exact bodyPost_ret (v := .agg #[.string p.v.name, .int .i64 p.v.ax, .int .i64 p.v.ay, .int .i64 p.v.height, .int .i64 p.v.jib, .int .i64 p.v.back, .slice A' p.r.n c]) (by simp [results, Tryd.results119, go_sem, k2, c0, c1, c2, c3, c4, c5, c6]) rfl ⟨A', c, rfl, h9, h5, h6, h3⟩
set_option maxRecDepth 100000 in
set_option maxHeartbeats 1000000 in
theorem l04Own_any (b off : Nat) (p : Crane) (w : World) (lo : Nat) (hr : Arr ChartStep.cs 2 w lo w.heap.size p.r.a p.r.n p.r.xs) (hn1 : 1 ≤ p.r.n) (hn : p.r.n ≤ 1000) (hbl : b < w.heap.size)
    (c0 : w.cell? ⟨b, off, none⟩ = some (.string p.v.name)) (c1 : w.cell? ⟨b, off + 1, none⟩ = some (.int .i64 p.v.ax)) (c2 : w.cell? ⟨b, off + 2, none⟩ = some (.int .i64 p.v.ay)) (c3 : w.cell? ⟨b, off + 3, none⟩ = some (.int .i64 p.v.height)) (c4 : w.cell? ⟨b, off + 4, none⟩ = some (.int .i64 p.v.jib)) (c5 : w.cell? ⟨b, off + 5, none⟩ = some (.int .i64 p.v.back)) (c6 : w.cell? ⟨b, off + 6, none⟩ = some (.slice p.r.a p.r.n p.r.cap)) :
    Calls Tryd.prog 119 #[.pointer (some ⟨b, off, none⟩)] w (OwnC p w) := by
  obtain ⟨⟨name, ax, ay, height, jib, back⟩, ⟨a, n, cap, xs⟩⟩ := p
  dsimp only at hr hn1 hn c0 c1 c2 c3 c4 c5 c6
  obtain ⟨b9, off9, x9, rfl, _, _, _, _⟩ := hr.cells (show 0 < n by omega)
  obtain ⟨W3, hW3⟩ : ∃ W3 : World, W3 = (w.alloc (.cells #[.string ⟨#[]⟩, .int .i64 0, .int .i64 0, .int .i64 0, .int .i64 0, .int .i64 0, .slice none 0 0] 38)).alloc (.cells #[.string name, .int .i64 ax, .int .i64 ay, .int .i64 height, .int .i64 jib, .int .i64 back, .slice (some ⟨b9, off9, none⟩) n cap] 38) := ⟨_, rfl⟩
  have B3 : RowKit.Below w.heap.size w W3 := by rw [hW3]; exact ((Below.refl _ _).alloc (Nat.le_refl _) _).alloc (by simp) _
  have P3 : Blk W3 (w.heap.size + 1) 38 #[.string name, .int .i64 ax, .int .i64 ay, .int .i64 height, .int .i64 jib, .int .i64 back, .slice (some ⟨b9, off9, none⟩) n cap] := by rw [hW3]; exact Blk.new_at rfl (by simp)
  have R3 : Blk W3 w.heap.size 38 #[.string ⟨#[]⟩, .int .i64 0, .int .i64 0, .int .i64 0, .int .i64 0, .int .i64 0, .slice none 0 0] := by rw [hW3]; exact (Blk.new _ _ _).alloc _
  have hz3 : W3.heap.size = w.heap.size + 1 + 1 := by rw [hW3]; simp
  obtain ⟨W4, hW4⟩ : ∃ W4 : World, W4 = W3.alloc (.cells #[] 162) := ⟨_, rfl⟩
  have B4 : RowKit.Below W3.heap.size W3 W4 := by rw [hW4]; exact (Below.refl _ _).alloc (Nat.le_refl _) _
  have G4 : Grow ChartStep.cs 2 W4 W3.heap.size 162 (.slice (some ⟨W3.heap.size, 0, none⟩) 0 0) [] := by rw [hW4]; exact Grow.empty _ _ _ (Nat.le_refl _)
  rw [hz3] at G4
  have HG4 := Lib.hid G4
  have HLN : Hid (xs.length = n) := hr.1
  have HP4 := Lib.hid (P3.bel B4)
  have HR4 := Lib.hid (R3.bel B4)
  have HB4 := Lib.hid (B3.trans (B4.mono B3.size))
  have HA4 := Lib.hid ((hr.below B3).below (B4.mono B3.size))
  have hz4 : W3.heap.size < W4.heap.size := by rw [hW4]; simp
  have hs9 : w.heap.size + 1 + 1 ≤ W4.heap.size := by omega
  rw [hz3] at hz4
  have HW4 : Hid (W4 = W3.alloc (.cells #[] 162)) := hW4
  have HW3 := Lib.hid hW3
  have d6 := (HB4.out.cell (p := ⟨b, off + 6, none⟩) hbl).trans c6
  rw [hW4, hW3] at d6
  clear hW4 G4 B4 P3 R3 B3 hW3 hr hz3
  go_enter Tryd.func119, Tryd.ntmps119
  go_wp2_with (at_builtin; rw [← HW3.out, ← HW4.out]; refine wpList_join _ rfl _ _ 36 rfl (w.heap.size + 1 + 1) 162 _ _ Tryd.underlying36 ChartStepInfo rfl (by omega) _ [] xs rfl HG4.out ⟨b9, off9, none⟩ n cap rfl lo w.heap.size HA4.out ChartStep.cs_len ChartStep.cs_one (by simp; omega) (by omega) hs9 ?_; intro v5 w5 hg5 hgr5; rw [List.nil_append] at hg5; obtain ⟨A9, c9, hv9, q1, q2⟩ := hg5.slice; obtain ⟨A5, c5', hv5, ho5⟩ := hg5.own ChartStep.cs_len; rw [hv9] at hv5; injection hv5 with e1 e2 e3; subst e1; subst e3; subst hv9; rw [HLN.out] at q1 ho5 ⊢; have HO5 := Lib.hid ho5; have P5 : Blk w5 (w.heap.size + 1) 38 #[.string name, .int .i64 ax, .int .i64 ay, .int .i64 height, .int .i64 jib, .int .i64 back, .slice (some ⟨b9, off9, none⟩) n cap] := (hgr5.block (w.heap.size + 1) (by omega) (fun e9 => by have := HG4.out.lt _ e9.symm; omega)).trans HP4.out; have R5 : Blk w5 w.heap.size 38 #[.string ⟨#[]⟩, .int .i64 0, .int .i64 0, .int .i64 0, .int .i64 0, .int .i64 0, .slice none 0 0] := (hgr5.block w.heap.size (by omega) (fun e9 => by have := HG4.out.lt _ e9.symm; omega)).trans HR4.out; have HB5 : Hid (RowKit.Below w.heap.size w w5) := HG4.out.below HB4.out hgr5 (by omega) (by omega); have HR5 := Lib.hid R5; have hz5 := hgr5.size; clear hg5 hgr5 e2 c0 c1 c2 c3 c4 c5 c6 d6; obtain ⟨k0, k1, k2, k3, k4, k5, k6⟩ := Crane.blk P5; have f6 := P5.frozen 6; obtain ⟨z0, z1, z2, z3, z4, z5, z6⟩ := Crane.blk R5; obtain ⟨y0, y1, y2, y3, y4, y5, y6⟩ := Crane.fro R5; clear P5 R5)
  rw [putC_eq]
  have hset : Within (w.heap.size + 1) (w.heap.size + 1 + 1) w5 (w5.setCell ⟨w.heap.size + 1, 6, none⟩ (.slice A9 n c9)) := (Within.refl _ _ _).setCell (p := ⟨w.heap.size + 1, 6, none⟩) (Nat.le_refl _) (Nat.lt_succ_self _) _
  have hself := putC_self (w5.setCell ⟨w.heap.size + 1, 6, none⟩ (.slice A9 n c9)) w.heap.size (.string name) (.int .i64 ax) (.int .i64 ay) (.int .i64 height) (.int .i64 jib) (.int .i64 back) (.slice A9 n c9)
  have hR6 : Blk (w5.setCell ⟨w.heap.size + 1, 6, none⟩ (.slice A9 n c9)) w.heap.size 38 #[.string ⟨#[]⟩, .int .i64 0, .int .i64 0, .int .i64 0, .int .i64 0, .int .i64 0, .slice none 0 0] := (hset.block w.heap.size (by omega) (by omega)).trans HR5.out
  refine own_end ⟨⟨name, ax, ay, height, jib, back⟩, ⟨some ⟨b9, off9, none⟩, n, cap, xs⟩⟩ w _ _ A9 c9 rfl rfl (putC_blk hR6 _ _ _ _ _ _ _) ?_ q1 q2 (putC_below (HB5.out.setCell (p := ⟨w.heap.size + 1, 6, none⟩) (by show _ ≤ w.heap.size + 1; omega) _) (Nat.le_refl _) _ _ _ _ _ _ _)
  exact ((HO5.out.within hset (.inr (Nat.le_refl _))).within hself (.inr (by omega))).wide (by omega) (Nat.le_trans hset.size hself.size)
end Go.Proofs.YtkegncanmfmmmaaDoor
/- XHv4: A copy of a site: l04Copy of the reference. -/
namespace Go.Proofs.YtkegncanmfmmmaaDoor
open Go.RowKit
set_option linter.unusedVariables false

/-- a crane whose row is its own, in memory from lo on -/
structure RowC (w : World) (lo : Nat) (y : Crane) : Prop where
  own : Own ChartStep.cs 2 w lo w.heap.size 162 y.r.a y.r.n y.r.xs
  cap : y.r.n ≤ y.r.cap ∧ y.r.cap ≤ 9223372036854775807
theorem RowC.bel {w w' : World} {lo : Nat} {y : Crane} (h : RowC w lo y) (hb : RowKit.Below w.heap.size w w') : RowC w' lo y := ⟨(h.own.bel hb).wide (Nat.le_refl _) hb.size, h.cap⟩
theorem RowC.less {w : World} {lo lo' : Nat} {y : Crane} (h : RowC w lo y) (hl : lo' ≤ lo) : RowC w lo' y := ⟨h.own.wide hl (Nat.le_refl _), h.cap⟩
theorem RowC.grown {w w' : World} {lo base : Nat} {v : Value} {ys : List Crane} {y : Crane} (h : RowC w lo y) (hg : Grow Crane.cs 7 w base 38 v ys) (hgr : w.grownBy w' v.ownBlock) : RowC w' lo y := ⟨(Own.kept h.own (by decide) hg hgr).wide (Nat.le_refl _) hgr.size, h.cap⟩
theorem RowC.set {w : World} {lo : Nat} {y : Crane} (h : RowC w lo y) {p : Addr} (hp : p.block < lo) (u : Value) : RowC (w.setCell p u) lo y := by
  have hw : Within p.block (p.block + 1) w (w.setCell p u) := (Within.refl _ _ _).setCell (Nat.le_refl _) (Nat.lt_succ_self _) u
  exact ⟨(h.own.within hw (.inr hp)).wide (Nat.le_refl _) hw.size, h.cap⟩
/-- what l04Copy hands back -/
def CopiedC (ps : List Crane) (lo : Nat) (v : Value) (w' : World) : Prop :=
  ∃ ys, Grow Crane.cs 7 w' lo 38 v ys ∧ ys.map Crane.val = ps.map Crane.val ∧ ∀ y ∈ ys, RowC w' lo y
theorem copied_step {ps ys : List Crane} {k : Nat} {p y : Crane} (h : ys.map Crane.val = (ps.take k).map Crane.val) (hp : ps[k]? = some p) (hy : y.val = p.val) : (ys ++ [y]).map Crane.val = (ps.take (k + 1)).map Crane.val := by
  rw [List.take_add_one, hp, List.map_append, List.map_append, h]; simp [hy]
set_option maxRecDepth 100000 in
set_option maxHeartbeats 1000000 in
theorem l04Copy_any (sb : Nat) (A : Option Addr) (n cap : Nat) (ps : List Crane) (w : World) (lo : Nat) (h : Cranes w lo w.heap.size A n ps) (hn : n ≤ 1000) (hr : ∀ p ∈ ps, 1 ≤ p.r.n ∧ p.r.n ≤ 1000) (hs : w.cell? ⟨sb, 0, none⟩ = some (.slice A n cap)) (hsb : sb < w.heap.size) :
    Calls Tryd.prog 72 #[.pointer (some ⟨sb, 0, none⟩)] w fun e w' => ∃ v, e = .returned (.agg #[v]) ∧ CopiedC ps w.heap.size v w' ∧ RowKit.Below w.heap.size w w' := by
  have HL : Hid (ps.length = n) := h.len
  have HA := Lib.hid h
  have HS := Lib.hid hs
  obtain ⟨W, hW⟩ : ∃ W : World, W = (w.alloc (.cells #[.slice none 0 0] 26)).alloc (.cells #[.slice none 0 0] 26) := ⟨_, rfl⟩
  have B0 : RowKit.Below w.heap.size w W := by rw [hW]; exact ((Below.refl _ _).alloc (Nat.le_refl _) _).alloc (by simp) _
  have P0 : Blk W (w.heap.size + 1) 26 #[.slice none 0 0] := by rw [hW]; exact Blk.new_at rfl (by simp)
  have R0 : Blk W w.heap.size 26 #[.slice none 0 0] := by rw [hW]; exact (Blk.new _ _ _).alloc _
  have HB0 := Lib.hid B0
  have HP0 := Lib.hid P0
  have HR0 := Lib.hid R0
  clear h hs B0 P0 R0
  go_enter Tryd.func72, Tryd.ntmps72
  go_wp2
  rw [← hW]
  clear hW
  go_loopw [4] (fun i wr => ∃ (k : Nat) (v : Value) (ys : List Crane), k ≤ n ∧ i = .int .i64 (k : Int) ∧ Blk wr (w.heap.size + 1) 26 #[v] ∧ Blk wr w.heap.size 26 #[.slice none 0 0] ∧ Grow Crane.cs 7 wr (w.heap.size + 2) 38 v ys ∧ ys.map Crane.val = (ps.take k).map Crane.val ∧ (∀ y ∈ ys, RowC wr (w.heap.size + 2) y) ∧ RowKit.Below w.heap.size w wr) (fun i _ => n - (intOf i).toNat)
  case atStart => exact ⟨0, _, [], Nat.zero_le _, rfl, HP0.out, HR0.out, Grow.nil _ _ _, rfl, fun y hy => (by cases hy), HB0.out⟩
  case round =>
    obtain ⟨k, v, ys, hk, rfl, hpb, hrb, hgr, hyv, hyr, hb⟩ := hrel
    rename World => wr
    have hyl : ys.length = k := by have := congrArg List.length hyv; rw [List.length_map, List.length_map, List.length_take, HL.out] at this; omega
    have hyl2 : ys.length ≤ 1000 := by omega
    clear hyl
    have hpl := hpb.lt
    have hs' : wr.cell? ⟨sb, 0, none⟩ = some (.slice A n cap) := (hb.cell (p := ⟨sb, 0, none⟩) hsb).trans HS.out
    obtain ⟨A1, cap1, rfl⟩ := hgr.form
    have q0 : wr.cell? ⟨w.heap.size + 1, 0, none⟩ = some (.slice A1 ys.length cap1) := (hpb.cell 0).trans rfl
    have fq := hpb.frozen 0
    by_cases hlt : k < n
    · obtain ⟨b, off, p, rfl, hx, _, hbl, hrow, c0, c1, c2, c3, c4, c5, c6⟩ := Crane.at (HA.out.below hb) hlt
      have hk0 : (0 : Int) ≤ (k : Int) := by omega
      have hk1 : (k : Int) < (n : Int) := by omega
      have hsz := hb.size
      obtain ⟨hpn1, hpn2⟩ := hr p (List.mem_of_getElem? hx)
      have HX := Lib.hid hx
      have HG := Lib.hid hgr
      have HYV := Lib.hid hyv
      have HYR := Lib.hid hyr
      have HPB := Lib.hid hpb
      have HRB := Lib.hid hrb
      have HB := Lib.hid hb
      clear hx hgr hyv hyr hpb hrb hb
      go_wp2_with fail
      have hnb : ∀ g, (Value.slice A1 ys.length cap1).ownBlock = some g → w.heap.size + 2 ≤ g := fun g hg => (HG.out.lt g hg).1
      have HNB := Lib.hid hnb
      clear hnb
      go_region_law ((first | (go_simp; go_at_call 119; refine (l04Own_any b (off + k * 7) p _ lo ((hrow.below ((Below.refl _ _).drew)).more (by show _ ≤ wr.heap.size; omega)) hpn1 hpn2 (by show b < wr.heap.size; omega) c0 c1 c2 c3 c4 c5 c6).mono ?_; rintro e w4 ⟨A4, c4', rfl, ho4, q1, q2, hb4⟩; have K4 : w4.cell? ⟨sb, 0, none⟩ = some (.slice (some ⟨b, off, none⟩) n cap) ∧ w4.cell? ⟨w.heap.size + 1, 0, none⟩ = some (.slice A1 ys.length cap1) := ⟨(hb4.cell (p := ⟨sb, 0, none⟩) (show sb < wr.heap.size by omega)).trans hs', (hb4.cell (p := ⟨w.heap.size + 1, 0, none⟩) (show w.heap.size + 1 < wr.heap.size by omega)).trans q0⟩; obtain ⟨K4a, K4b⟩ := K4; have l4 : w.heap.size + 1 < w4.heap.size := Nat.lt_of_lt_of_le (show w.heap.size + 1 < wr.heap.size by omega) hb4.size; have l5 : sb < w4.heap.size := Nat.lt_of_lt_of_le (show sb < wr.heap.size by omega) hb4.size; obtain ⟨W5, hW5⟩ : ∃ W5 : World, W5 = w4.alloc (.cells #[.string p.v.name, .int .i64 p.v.ax, .int .i64 p.v.ay, .int .i64 p.v.height, .int .i64 p.v.jib, .int .i64 p.v.back, .slice A4 p.r.n c4'] 38) := ⟨_, rfl⟩; have hbd : RowKit.Below wr.heap.size wr W5 := by { rw [hW5]; exact (((Below.refl _ _).drew).trans hb4).alloc hb4.size _ }; have hb5 : RowKit.Below w4.heap.size w4 W5 := by { rw [hW5]; exact (Below.refl _ _).alloc (Nat.le_refl _) _ }; have G5 := Lib.hid (HG.out.bel hbd); have PB5 := Lib.hid (HPB.out.bel hbd); have RB5 := Lib.hid (HRB.out.bel hbd); have HB5 := Lib.hid (HB.out.trans (hbd.mono hsz)); have Y5 : Hid (∀ y ∈ ys ++ [(⟨p.v, ⟨A4, p.r.n, c4', p.r.xs⟩⟩ : Crane)], RowC W5 (w.heap.size + 2) y) := fun y hy => (by { rcases List.mem_append.1 hy with hy | hy; exact (HYR.out y hy).bel hbd; rw [List.mem_singleton] at hy; subst hy; exact RowC.bel ⟨ho4.wide (by show w.heap.size + 2 ≤ wr.heap.size; omega) (Nat.le_refl _), q1, q2⟩ hb5 }); have hz5 := hbd.size; have HW5 := Lib.hid hW5; have hs5 : W5.cell? ⟨sb, 0, none⟩ = some (.slice (some ⟨b, off, none⟩) n cap) := (hbd.cell (p := ⟨sb, 0, none⟩) (by show sb < _; omega)).trans hs'; have HS5 := Lib.hid hs5; clear hbd hb5 hb4 ho4 hW5 hs5) | (rw [← HW5.out]; refine step_snoc (by rfl) _ _ _ (by rfl) (w.heap.size + 2) 38 _ 80 Tryd.underlying24 CraneInfo rfl (by omega) (.slice A1 ys.length cap1) ys ⟨p.v, ⟨A4, p.r.n, c4', p.r.xs⟩⟩ (by rfl) G5.out w4.heap.size #[.string p.v.name, .int .i64 p.v.ax, .int .i64 p.v.ay, .int .i64 p.v.height, .int .i64 p.v.jib, .int .i64 p.v.back, .slice A4 p.r.n c4'] (by rfl) (by rw [HW5.out]; exact heap_alloc_new w4 _) rfl rfl (Crane.cs_one _) (by omega) (by omega) (by omega) (ys.length + 1) rfl ?_; intro A6 cap6 w6 hg6 hgr6; have PB6 := (hgr6.block (w.heap.size + 1) (by omega) (fun e9 => by have := HNB.out _ e9.symm; omega)).trans PB5.out; have K6 : w6.cell? ⟨sb, 0, none⟩ = some (.slice (some ⟨b, off, none⟩) n cap) ∧ w6.cell? ⟨w.heap.size + 1, 0, none⟩ = some (.slice A1 ys.length cap1) := ⟨((HB5.out.grown hgr6 (by omega) (fun g hg => by have := HNB.out g hg; omega)).cell (p := ⟨sb, 0, none⟩) hsb).trans HS.out, (Blk.cell PB6 0).trans rfl⟩; have f6 : w6.frozen? ⟨w.heap.size + 1, 0, none⟩ = false := Blk.frozen PB6 0; have l6 : w.heap.size + 1 < w6.heap.size := Blk.lt PB6)))
      all_goals
        have RB6 : Blk w6 w.heap.size 26 #[.slice none 0 0] := (hgr6.block w.heap.size (by omega) (fun e9 => by have := HNB.out _ e9.symm; omega)).trans RB5.out
        have HB6 := HB5.out.grown hgr6 (by omega) (fun g hg => by have := HNB.out g hg; omega)
        have Y6 : ∀ y ∈ ys ++ [(⟨p.v, ⟨A4, p.r.n, c4', p.r.xs⟩⟩ : Crane)], RowC (w6.setCell ⟨w.heap.size + 1, 0, none⟩ (.slice A6 (ys.length + 1) cap6)) (w.heap.size + 2) y := fun y hy => ((Y5.out y hy).grown G5.out hgr6).set (p := ⟨w.heap.size + 1, 0, none⟩) (by show w.heap.size + 1 < _; omega) _
        have HREL : Hid (∃ (k' : Nat) (v : Value) (ys' : List Crane), k' ≤ n ∧ Value.int .i64 ((k : Int) + 1) = .int .i64 (k' : Int) ∧ Blk (w6.setCell ⟨w.heap.size + 1, 0, none⟩ (.slice A6 (ys.length + 1) cap6)) (w.heap.size + 1) 26 #[v] ∧ Blk (w6.setCell ⟨w.heap.size + 1, 0, none⟩ (.slice A6 (ys.length + 1) cap6)) w.heap.size 26 #[.slice none 0 0] ∧ Grow Crane.cs 7 (w6.setCell ⟨w.heap.size + 1, 0, none⟩ (.slice A6 (ys.length + 1) cap6)) (w.heap.size + 2) 38 v ys' ∧ ys'.map Crane.val = (ps.take k').map Crane.val ∧ (∀ y ∈ ys', RowC (w6.setCell ⟨w.heap.size + 1, 0, none⟩ (.slice A6 (ys.length + 1) cap6)) (w.heap.size + 2) y) ∧ RowKit.Below w.heap.size w (w6.setCell ⟨w.heap.size + 1, 0, none⟩ (.slice A6 (ys.length + 1) cap6))) := ⟨k + 1, _, ys ++ [⟨p.v, ⟨A4, p.r.n, c4', p.r.xs⟩⟩], by omega, by go_num, Blk.set_lit (i := 0) (u := .slice A6 (ys.length + 1) cap6) PB6 rfl, RB6.far (by simp) _, Grow.setOther hg6 (p := ⟨w.heap.size + 1, 0, none⟩) (by show w.heap.size + 1 < _; omega) _, copied_step HYV.out HX.out rfl, Y6, HB6.setCell (p := ⟨w.heap.size + 1, 0, none⟩) (by show _ ≤ w.heap.size + 1; omega) _⟩
        clear RB6 HB6 Y6 hg6 hgr6 PB6
        go_wp2
        go_roundw
        · exact HREL.out
        · simp [intOf]; omega
    · obtain rfl : k = n := by omega
      have HF : Hid (CopiedC ps w.heap.size (.slice A1 ys.length cap1) (wr.setCell ⟨w.heap.size, 0, none⟩ (.slice A1 ys.length cap1))) := ⟨ys, (Grow.setOther hgr (p := ⟨w.heap.size, 0, none⟩) (by show w.heap.size < _; omega) _).less (by omega), by rw [hyv, List.take_of_length_le (by rw [HL.out]; exact Nat.le_refl _)], fun y hy => ((hyr y hy).set (p := ⟨w.heap.size, 0, none⟩) (by show w.heap.size < _; omega) _).less (by omega)⟩
      have HB := Lib.hid hb
      have r0 : wr.cell? ⟨w.heap.size, 0, none⟩ = some (.slice none 0 0) := (hrb.cell 0).trans rfl
      have fr := hrb.frozen 0
      clear hgr hyv hyr hpb hrb hb
      go_wp2
      exact bodyPost_ret (v := .agg #[.slice A1 ys.length cap1]) (by simp [results, Tryd.results72, go_sem, r0]) rfl ⟨_, rfl, HF.out, HB.out.setCell (p := ⟨w.heap.size, 0, none⟩) (Nat.le_refl _) _⟩
end Go.Proofs.YtkegncanmfmmmaaDoor
/- XHv5: Drawn sites: l04DrawSite of the reference, at most 4 cranes: a valid site. -/
namespace Go.Proofs.YtkegncanmfmmmaaDoor
open Go.RowKit
set_option linter.unusedVariables false

def snL : List ByteArray := [⟨#[97, 100, 97]⟩, ⟨#[98, 111]⟩, ⟨#[99, 114, 97, 110, 101, 45, 51]⟩, ⟨#[100]⟩, ⟨#[101]⟩, ⟨#[102]⟩]
def snCells : Array Value := #[.string ⟨#[97, 100, 97]⟩, .string ⟨#[98, 111]⟩, .string ⟨#[99, 114, 97, 110, 101, 45, 51]⟩, .string ⟨#[100]⟩, .string ⟨#[101]⟩, .string ⟨#[102]⟩]
theorem sn_ok : ∀ s ∈ snL, nmOk s = true := by decide +kernel
theorem sn_size : ∀ s ∈ snL, s.size ≤ 20 := by decide +kernel
theorem sn_at {w : World} {q : Nat} (h : Blk w q 9 snCells) : ∀ i, i < 6 → ∃ s, snL[i]? = some s ∧ w.cell? ⟨q, i, none⟩ = some (.string s) := by
  intro i hi
  rw [h.cell]
  match i, hi with
  | 0, _ => exact ⟨_, rfl, rfl⟩
  | 1, _ => exact ⟨_, rfl, rfl⟩
  | 2, _ => exact ⟨_, rfl, rfl⟩
  | 3, _ => exact ⟨_, rfl, rfl⟩
  | 4, _ => exact ⟨_, rfl, rfl⟩
  | 5, _ => exact ⟨_, rfl, rfl⟩
/-- what is known of each crane of a site that is being drawn -/
structure CrGood (y : Crane) : Prop where
  len : 1 ≤ y.r.n ∧ y.r.n ≤ 5
  ok : craneOk y.val = true
  wf : y.wf
  pos : (-600 ≤ y.v.ax ∧ y.v.ax ≤ 600) ∧ (-600 ≤ y.v.ay ∧ y.v.ay ≤ 600)
theorem CrGood.val {y z : Crane} (h : CrGood y) (hv : z.val = y.val) (hl : z.r.xs.length = z.r.n) (hly : y.r.xs.length = y.r.n) : CrGood z := by
  obtain ⟨zv, zr⟩ := z
  obtain ⟨yv, yr⟩ := y
  have e1 : zv = yv := congrArg Prod.fst hv
  have e2 : zr.xs = yr.xs := congrArg Prod.snd hv
  subst e1
  dsimp only at hl hly
  have e3 : zr.n = yr.n := by rw [← hl, ← hly, e2]
  refine ⟨by have := h.len; dsimp only at this ⊢; omega, by have := h.ok; rw [← hv] at this; exact this, ⟨h.wf.v, by show zr.n ≤ _; rw [e3]; exact h.wf.n, by show ∀ x ∈ zr.xs, _; rw [e2]; exact h.wf.xs⟩, h.pos⟩
theorem DrawnP.good {name : ByteArray} {p : Crane} (h : DrawnP name p) (hn : nmOk name = true) (hs : name.size ≤ 20) (hl : p.r.xs.length = p.r.n) : CrGood p := by
  refine ⟨⟨?_, h.len⟩, h.ok hn, h.wf hs, h.pos⟩
  have := chartOk_len (show chartOk p.r.xs = true by have := h.ok hn; unfold craneOk at this; rw [Bool.and_eq_true, Bool.and_eq_true] at this; exact this.2.1)
  omega
theorem siteOk_one {c : CV} (h : craneOk c = true) : siteOk [c] = true := by
  rw [siteOk_end (n := 1) rfl]
  · rfl
  · rw [allTo_iff]
    intro i hi
    obtain rfl : i = 0 := by omega
    rw [siteAt_of (c := c) rfl, h]
    rfl
theorem heap_setBlk {w : World} {q i g : Nat} {t e : TypeId} {cs cur : Array Value} {u : Value} (hX : Blk w q t cs) (ht : t ≠ e) (hg : w.heap[g]? = some (.cells cur e (0, 0))) : (w.setCell ⟨q, i, none⟩ u).heap[g]? = some (.cells cur e (0, 0)) := by
  refine (Below.heap_setCell _ _ _ _ ?_).trans hg
  intro e9
  obtain rfl : g = q := e9
  have := Eq.symm hX |>.trans hg
  simp at this
  exact ht this.2
theorem Grow.setBlk {α : Type} {c : α → List Value} {k : Nat} {w : World} {lo : Nat} {e t : TypeId} {v : Value} {xs : List α} {q i : Nat} {cs : Array Value} (h : Grow c k w lo e v xs) (hX : Blk w q t cs) (ht : t ≠ e) (u : Value) : Grow c k (w.setCell ⟨q, i, none⟩ u) lo e v xs := by
  refine ⟨h.1, ?_⟩
  rcases h.2 with ⟨h1, h2⟩ | ⟨g, cap, cur, h1, h2, h3, h4⟩
  · exact .inl ⟨h1, h2⟩
  · exact .inr ⟨g, cap, cur, h1, h2, heap_setBlk hX ht h3, h4⟩
theorem Own.setBlk {α : Type} {c : α → List Value} {k : Nat} {w : World} {lo hi : Nat} {e t : TypeId} {A : Option Addr} {n : Nat} {xs : List α} {q i : Nat} {cs : Array Value} (h : Own c k w lo hi e A n xs) (hX : Blk w q t cs) (ht : t ≠ e) (u : Value) : Own c k (w.setCell ⟨q, i, none⟩ u) lo hi e A n xs :=
  ⟨h.1, fun hn => by
    obtain ⟨g, cur, e1, h1, h0, h2, h3, h4⟩ := h.2 hn
    exact ⟨g, cur, e1, h1, h0, heap_setBlk hX ht h2, h3, h4⟩⟩
theorem RowC.setBlk {w : World} {lo q i : Nat} {y : Crane} {cs : Array Value} (h : RowC w lo y) (hX : Blk w q 26 cs) (u : Value) : RowC (w.setCell ⟨q, i, none⟩ u) lo y :=
  ⟨by have := h.own.setBlk (i := i) hX (by decide) u; rw [show (w.setCell ⟨q, i, none⟩ u).heap.size = w.heap.size by simp]; exact this, h.cap⟩
/-- a site that is being drawn -/
structure SiteD (w : World) (lo : Nat) (v : Value) (ys : List Crane) : Prop where
  grow : Grow Crane.cs 7 w lo 38 v ys
  rows : ∀ y ∈ ys, RowC w lo y
  good : ∀ y ∈ ys, CrGood y
  ok : ys = [] ∨ siteOk (ys.map Crane.val) = true
theorem SiteD.cranes {w : World} {lo : Nat} {v : Value} {ys : List Crane} (h : SiteD w lo v ys) {A : Option Addr} {cap : Nat} (hv : v = .slice A ys.length cap) : Cranes w lo w.heap.size A ys.length ys := by
  obtain ⟨A2, cap2, h1, h2⟩ := h.grow.own Crane.cs_len
  rw [hv] at h1
  injection h1 with e1 _ _
  subst e1
  exact ⟨h2.arr Crane.cs_len, fun y hy => (h.rows y hy).own.arr ChartStep.cs_len⟩
theorem SiteD.after {g lo : Nat} {w w' : World} {v : Value} {ys : List Crane} (h : SiteD w lo v ys) (hw : Within g (g + 1) w w') (hg : g < lo) : SiteD w' lo v ys :=
  ⟨h.grow.far2 hw hg, fun y hy => ⟨((h.rows y hy).own.within hw (.inr hg)).wide (Nat.le_refl _) hw.size, (h.rows y hy).cap⟩, h.good, h.ok⟩
theorem good_map {ys ys2 : List Crane} (hv : ys2.map Crane.val = ys.map Crane.val) (h : ∀ y ∈ ys, CrGood y) (l1 : ∀ y ∈ ys, y.r.xs.length = y.r.n) (l2 : ∀ y ∈ ys2, y.r.xs.length = y.r.n) : ∀ y ∈ ys2, CrGood y := by
  intro y hy
  have hm : y.val ∈ ys.map Crane.val := by rw [← hv]; exact List.mem_map_of_mem hy
  obtain ⟨z, hz, he⟩ := List.mem_map.1 hm
  exact (h z hz).val he.symm (l2 y hy) (l1 z hz)
theorem site_next {g X B : Nat} {W3 w4 W5 w6 : World} {v2 v6 : Value} {cs : Array Value} {ys2 : List Crane} {p : Crane} {nm : ByteArray} (hgB : g < B) (hG : Grow Crane.cs 7 W5 B 38 v2 ys2) (hY : ∀ y ∈ ys2, RowC W3 B y) (h34 : Within g (g + 1) W3 w4) (h45 : RowKit.Below w4.heap.size w4 W5) (hz3 : B ≤ W3.heap.size)
    (hop : Own ChartStep.cs 2 w4 W3.heap.size w4.heap.size 162 p.r.a p.r.n p.r.xs) (hp : DrawnP nm p) (hn1 : nmOk nm = true) (hn2 : nm.size ≤ 20) (hgd : ∀ y ∈ ys2, CrGood y) (hg6 : Grow Crane.cs 7 w6 B 38 v6 (ys2 ++ [p])) (hgr : W5.grownBy w6 v2.ownBlock) (hX : Blk w6 X 26 cs) (u : Value) :
    Grow Crane.cs 7 (w6.setCell ⟨X, 0, none⟩ u) B 38 v6 (ys2 ++ [p]) ∧ (∀ y ∈ ys2 ++ [p], RowC (w6.setCell ⟨X, 0, none⟩ u) B y) ∧ (∀ y ∈ ys2 ++ [p], CrGood y) := by
  refine ⟨hg6.setBlk hX (by decide) u, fun y hy => ?_, fun y hy => ?_⟩
  · have h4 : RowC w4 B y := by
      rcases List.mem_append.1 hy with hy | hy
      · have := hY y hy
        exact ⟨(this.own.within h34 (.inr hgB)).wide (Nat.le_refl _) h34.size, this.cap⟩
      · rw [List.mem_singleton] at hy
        subst hy
        exact ⟨hop.wide hz3 (Nat.le_refl _), hp.cap⟩
    exact ((h4.bel h45).grown hG hgr).setBlk hX u
  · rcases List.mem_append.1 hy with hy | hy
    · exact hgd y hy
    · rw [List.mem_singleton] at hy
      subst hy
      exact hp.good hn1 hn2 hop.1
set_option maxRecDepth 100000 in
set_option maxHeartbeats 1000000 in
theorem l04DrawSite_any (g B : Nat) (A : Option Addr) (n : Nat) (xs : List Int) (m : Nat) (hm : m ≤ 700000) (hn : n ≤ 1000000) (w : World) (h : Src w g B A n xs m) :
    Calls Tryd.prog 30 #[.pointer (some ⟨g, 0, none⟩), .int .i64 4] w fun e w' => ∃ v ys, e = .returned (.agg #[v]) ∧ SiteD w' w.heap.size v ys ∧ siteOk (ys.map Crane.val) = true ∧ Src w' g B A n xs (m + 200) ∧ Within g (g + 1) w w' := by
  have hg := h.lt
  obtain ⟨W, hW⟩ : ∃ W : World, W = ((w.alloc (.cells #[.slice none 0 0] 26)).alloc (.cells snCells 9)).alloc (.cells #[.slice none 0 0] 26) := ⟨_, rfl⟩
  have B0 : RowKit.Below w.heap.size w W := by rw [hW]; exact (((Below.refl _ _).alloc (Nat.le_refl _) _).alloc (by simp) _).alloc (by simp; omega) _
  have R0 : Blk W w.heap.size 26 #[.slice none 0 0] := by rw [hW]; exact ((Blk.new _ _ _).alloc _).alloc _
  have N0 : Blk W (w.heap.size + 1) 9 snCells := by rw [hW]; exact (Blk.new_at rfl (by simp)).alloc _
  have O0 : Blk W (w.heap.size + 1 + 1) 26 #[.slice none 0 0] := by rw [hW]; exact Blk.new_at rfl (by simp)
  have hwb : Within g (g + 1) w W := .of_below _ _ B0
  have hzW := O0.lt
  go_enter Tryd.func30, Tryd.ntmps30
  go_wp2_with fail
  rw [show (#[.string ⟨#[97, 100, 97]⟩, .string ⟨#[98, 111]⟩, .string ⟨#[99, 114, 97, 110, 101, 45, 51]⟩, .string ⟨#[100]⟩, .string ⟨#[101]⟩, .string ⟨#[102]⟩] : Array Value) = snCells from rfl, ← hW]
  clear hW
  refine (pick_any g B A n xs m (by omega) hn 4 (by omega) (by omega) W (h.bel B0)).mono ?_
  rintro e w1 ⟨k0, rfl, hk0, hk1, hs1, hw1⟩
  have HR1 := Lib.hid (R0.after hw1 (by omega))
  have HN1 := Lib.hid (N0.after hw1 (by omega))
  have HO1 := Lib.hid (O0.after hw1 (by omega))
  have HT1 := Lib.hid (hwb.trans hw1)
  have HS1 := Lib.hid hs1
  have hz1 := hw1.size
  obtain ⟨K, rfl⟩ := Int.eq_ofNat_of_zero_le hk0
  have hK : K ≤ 3 := by omega
  clear R0 N0 O0 B0 hwb hw1 hs1 h hk0 hk1
  go_wp2
  go_loopw [7] (fun kv wr => ∃ (k : Nat) (v : Value) (ys : List Crane), ys.length + k ≤ K + 1 ∧ k ≤ K + 1 ∧ kv = .int .i64 (k : Int) ∧ Blk wr w.heap.size 26 #[.slice none 0 0] ∧ Blk wr (w.heap.size + 1) 9 snCells ∧ Blk wr (w.heap.size + 1 + 1) 26 #[v] ∧ SiteD wr (w.heap.size + 3) v ys ∧ Src wr g B A n xs (m + 2 + 34 * (K + 1 - k)) ∧ Within g (g + 1) w wr) (fun kv _ => (intOf kv).toNat)
  case atStart => exact ⟨K + 1, _, [], by simp, Nat.le_refl _, by go_num, HR1.out, HN1.out, HO1.out, ⟨Grow.nil _ _ _, fun y hy => (by cases hy), fun y hy => (by cases hy), .inl rfl⟩, HS1.out.more (by omega), HT1.out⟩
  case round =>
    obtain ⟨k, v, ys, hyk, hk, rfl, hrb, hnb, hob, hsd, hsr, hwr⟩ := hrel
    rename World => wr
    obtain ⟨A1, cap1, rfl⟩ := hsd.grow.form
    have hC := hsd.cranes rfl
    have HSD := Lib.hid hsd
    have HRB := Lib.hid hrb
    have HNB := Lib.hid hnb
    have HOB := Lib.hid hob
    have HWR := Lib.hid hwr
    have HSR := Lib.hid hsr
    have hol := hob.lt
    have o0 : wr.cell? ⟨w.heap.size + 1 + 1, 0, none⟩ = some (.slice A1 ys.length cap1) := (hob.cell 0).trans rfl
    clear hrb hnb hob hwr hsr hsd HR1 HN1 HO1 HT1 HS1
    by_cases hlt : 0 < k
    · have hk1 : (0 : Int) < (k : Int) := by omega
      have hlen : ys.length ≤ 3 := by omega
      go_wp2_with fail
      refine (l04Copy_any (w.heap.size + 1 + 1) A1 ys.length cap1 ys wr _ hC (by omega) (fun p hp => ⟨((HSD.out.good p hp).len).1, by have := ((HSD.out.good p hp).len).2; omega⟩) o0 hol).mono ?_
      rintro e w2 ⟨v2, rfl, ⟨ys2, hg2, hv2, hr2⟩, hb2⟩
      obtain ⟨A2, cap2, rfl⟩ := hg2.form
      have hl2 : ys2.length = ys.length := by have := congrArg List.length hv2; rw [List.length_map, List.length_map] at this; exact this
      have hl2b : ys2.length ≤ 3 := by omega
      have HL2 := Lib.hid hl2
      have hgwr : g < wr.heap.size := by have := HWR.out.size; omega
      obtain ⟨W3, hW3⟩ : ∃ W3 : World, W3 = w2.alloc (.cells #[.slice A2 ys2.length cap2] 26) := ⟨_, rfl⟩
      have hb3 : RowKit.Below wr.heap.size wr W3 := by rw [hW3]; exact hb2.alloc hb2.size _
      have hb3' : RowKit.Below w2.heap.size w2 W3 := by rw [hW3]; exact (Below.refl _ _).alloc (Nat.le_refl _) _
      have hX3 : Blk W3 w2.heap.size 26 #[.slice A2 ys2.length cap2] := by rw [hW3]; exact Blk.new _ _ _
      have hz2 := hb2.size
      have hz3 := hX3.lt
      obtain ⟨nm, hnm, hnc⟩ := sn_at (HNB.out.bel hb3) ys.length (by omega)
      have x0 : W3.cell? ⟨w2.heap.size, 0, none⟩ = some (.slice A2 ys2.length cap2) := (hX3.cell 0).trans rfl
      have o3 : W3.cell? ⟨w.heap.size + 1 + 1, 0, none⟩ = some (.slice A1 ys.length cap1) := ((HOB.out.bel hb3).cell 0).trans rfl
      have HG3 := Lib.hid (hg2.bel hb3')
      have HY3 : Hid (∀ y ∈ ys2, RowC W3 wr.heap.size y) := fun y hy => (hr2 y hy).bel hb3'
      have HX3 := Lib.hid hX3
      have HGD2 := Lib.hid (good_map hv2 HSD.out.good (fun y hy => (HSD.out.rows y hy).own.1) (fun y hy => (hr2 y hy).own.1))
      have HV2 := Lib.hid hv2
      have HNM := Lib.hid hnm
      have HB3 := Lib.hid hb3
      have HS3 := Lib.hid (HSR.out.bel hb3)
      have hlz : (0 : Int) ≤ (ys.length : Int) := by omega
      have hly : (ys.length : Int) < 6 := by omega
      clear hl2 hb2 hb3 hb3' hX3 hg2 hr2 hv2 hnm hC o0
      go_wp2_with fail
      rw [← hW3]
      clear hW3
      go_region_law ((first | (go_simp; go_at_call 73; refine (l04Draw_any g B A n xs (m + 2 + 34 * (K + 1 - k)) (by omega) hn nm _ (HS3.out.bel ((Below.refl _ _).drew))).mono ?_; rintro e w4 ⟨p, rfl, hp, hop, hs4, hw4⟩; have hw34 : Within g (g + 1) W3 w4 := Within.trans (.of_below _ _ ((Below.refl W3.heap.size W3).drew)) hw4; have hz4 := hw34.size; have x4 : w4.cell? ⟨w2.heap.size, 0, none⟩ = some (.slice A2 ys2.length cap2) := ((HX3.out.after hw34 (by omega)).cell 0).trans rfl; have l4 : w2.heap.size < w4.heap.size := (by omega); obtain ⟨W5, hW5⟩ : ∃ W5 : World, W5 = w4.alloc (.cells #[.string p.v.name, .int .i64 p.v.ax, .int .i64 p.v.ay, .int .i64 p.v.height, .int .i64 p.v.jib, .int .i64 p.v.back, .slice p.r.a p.r.n p.r.cap] 38) := ⟨_, rfl⟩; have hb5 : RowKit.Below w4.heap.size w4 W5 := (by rw [hW5]; exact (Below.refl _ _).alloc (Nat.le_refl _) _); have hz5 := hb5.size; have G5 := Lib.hid ((HG3.out.far2 hw34 hgwr).bel hb5); have X5 := Lib.hid ((HX3.out.after hw34 (by omega)).bel hb5); have HW34 := Lib.hid hw34; have HB5 := Lib.hid hb5; have S5 := Lib.hid (hs4.bel hb5); have HP := Lib.hid hp; have HOP := Lib.hid hop; have HW5 := Lib.hid hW5; clear hW5 hb5 hw34 hw4 hs4 hp hop) | (rw [← HW5.out]; refine step_snoc (by rfl) _ _ _ (by rfl) wr.heap.size 38 _ 80 Tryd.underlying24 CraneInfo rfl (by omega) (.slice A2 ys2.length cap2) ys2 p (by rfl) G5.out w4.heap.size #[.string p.v.name, .int .i64 p.v.ax, .int .i64 p.v.ay, .int .i64 p.v.height, .int .i64 p.v.jib, .int .i64 p.v.back, .slice p.r.a p.r.n p.r.cap] (by rfl) (by rw [HW5.out]; exact heap_alloc_new w4 _) rfl rfl (Crane.cs_one _) (by omega) (by omega) (by omega) (ys2.length + 1) rfl ?_; intro A6 cap6 w6 hg6 hgr6; have X6 : Blk w6 w2.heap.size 26 #[.slice A2 ys2.length cap2] := X5.out.kept (by decide) G5.out hgr6; have x6 : w6.cell? ⟨w2.heap.size, 0, none⟩ = some (.slice A2 ys2.length cap2) := (X6.cell 0).trans rfl; have f6 : w6.frozen? ⟨w2.heap.size, 0, none⟩ = false := X6.frozen 0; have l6 : w2.heap.size < w6.heap.size := X6.lt)))
      all_goals
        have hnmem := List.mem_of_getElem? HNM.out
        have HSN := Lib.hid (site_next (nm := nm) hgwr G5.out HY3.out HW34.out HB5.out (by omega) HOP.out HP.out (sn_ok nm hnmem) (sn_size nm hnmem) HGD2.out hg6 hgr6 X6 (.slice A6 (ys2.length + 1) cap6))
        have hw5 : Within g (g + 1) wr W5 := ((Within.of_below g (g + 1) HB3.out).trans HW34.out).trans (.of_below g (g + 1) HB5.out)
        have hw6 : Within g (g + 1) wr w6 := Grow.within G5.out hw5 hgr6 (Nat.le_refl _)
        have HW7 := Lib.hid (hw6.fresh (p := ⟨w2.heap.size, 0, none⟩) hz2 (.slice A6 (ys2.length + 1) cap6))
        have hS6 := S5.out.grown hgr6 (fun u e9 => by have := G5.out.lt u e9; omega)
        have HS7 := Lib.hid (hS6.set (p := ⟨w2.heap.size, 0, none⟩) (by show g < w2.heap.size; omega) (.slice A6 (ys2.length + 1) cap6))
        have HX7 : Hid (Blk (w6.setCell ⟨w2.heap.size, 0, none⟩ (.slice A6 (ys2.length + 1) cap6)) w2.heap.size 26 #[.slice A6 (ys2.length + 1) cap6]) := X6.set_lit (i := 0) rfl
        obtain ⟨W7, hW7⟩ : ∃ W7 : World, W7 = w6.setCell ⟨w2.heap.size, 0, none⟩ (.slice A6 (ys2.length + 1) cap6) := ⟨_, rfl⟩
        rw [← hW7] at HSN HW7 HS7 HX7
        clear hw5 hw6 hS6 hg6 hgr6 X6 hnmem
        go_wp2_with fail
        rw [← hW7]
        clear hW7
        obtain ⟨G7, Y7, GD7⟩ := HSN.out
        have hlc : (ys2 ++ [p]).length = ys2.length + 1 := by simp
        have hC7 : Cranes W7 wr.heap.size W7.heap.size A6 (ys2.length + 1) (ys2 ++ [p]) := by
          obtain ⟨Ao, capo, ho1, ho2⟩ := G7.own Crane.cs_len
          injection ho1 with e1 e2 e3
          subst e1
          rw [hlc] at ho2
          exact ⟨ho2.arr Crane.cs_len, fun y hy => (Y7 y hy).own.arr ChartStep.cs_len⟩
        have HC7 := Lib.hid hC7
        clear hlc hC7 G7 Y7 GD7
        have hlg : g < w.heap.size + 3 := by omega
        cases hso : siteOk ((ys2 ++ [p]).map Crane.val)
        · refine (l04Site_any w2.heap.size 0 ⟨A6, ys2.length + 1, cap6, ys2 ++ [p]⟩ _ rfl W7 wr.heap.size ((HX7.out.cell 0).trans rfl) HX7.out.lt HC7.out (by dsimp only; omega) (fun q hq => (HSN.out.2.2 q hq).wf)).mono ?_
          rintro e w8 ⟨rfl, hb8⟩
          rw [hso]
          have hw8 : Within g (g + 1) wr w8 := HW7.out.trans (.of_below g (g + 1) hb8)
          have HR8 := Lib.hid (HRB.out.after hw8 (by omega))
          have HN8 := Lib.hid (HNB.out.after hw8 (by omega))
          have HO8 := Lib.hid (HOB.out.after hw8 (by omega))
          have HD8 := Lib.hid (HSD.out.after hw8 hlg)
          have HS8 := Lib.hid ((HS7.out.bel hb8).more (m' := m + 2 + 34 * (K + 1 - (k - 1))) (by omega))
          have HW8 := Lib.hid (HWR.out.trans hw8)
          clear hw8 hb8
          go_wp2
          go_roundw
          · exact ⟨k - 1, _, ys, by omega, by omega, by go_num, HR8.out, HN8.out, HO8.out, HD8.out, HS8.out, HW8.out⟩
          · simp [intOf]; omega
        · refine (l04Site_any w2.heap.size 0 ⟨A6, ys2.length + 1, cap6, ys2 ++ [p]⟩ _ rfl W7 wr.heap.size ((HX7.out.cell 0).trans rfl) HX7.out.lt HC7.out (by dsimp only; omega) (fun q hq => (HSN.out.2.2 q hq).wf)).mono ?_
          rintro e w8 ⟨rfl, hb8⟩
          rw [hso]
          have HSO := Lib.hid hso
          have hw8 : Within g (g + 1) wr w8 := HW7.out.trans (.of_below g (g + 1) hb8)
          have hO8 := HOB.out.after hw8 (by omega)
          have x8 : w8.cell? ⟨w2.heap.size, 0, none⟩ = some (.slice A6 (ys2.length + 1) cap6) := ((HX7.out.bel hb8).cell 0).trans rfl
          have o8 : w8.cell? ⟨w.heap.size + 1 + 1, 0, none⟩ = some (.slice A1 ys.length cap1) := (hO8.cell 0).trans rfl
          have fo8 := hO8.frozen 0
          have HR9 := Lib.hid ((HRB.out.after hw8 (by omega)).far (p := ⟨w.heap.size + 1 + 1, 0, none⟩) (by show w.heap.size ≠ w.heap.size + 1 + 1; omega) (.slice A6 (ys2.length + 1) cap6))
          have HN9 := Lib.hid ((HNB.out.after hw8 (by omega)).far (p := ⟨w.heap.size + 1 + 1, 0, none⟩) (by show w.heap.size + 1 ≠ w.heap.size + 1 + 1; omega) (.slice A6 (ys2.length + 1) cap6))
          have HO9 : Hid (Blk (w8.setCell ⟨w.heap.size + 1 + 1, 0, none⟩ (.slice A6 (ys2.length + 1) cap6)) (w.heap.size + 1 + 1) 26 #[.slice A6 (ys2.length + 1) cap6]) := hO8.set_lit (i := 0) rfl
          have HD9 : Hid (SiteD (w8.setCell ⟨w.heap.size + 1 + 1, 0, none⟩ (.slice A6 (ys2.length + 1) cap6)) (w.heap.size + 3) (.slice A6 (ys2.length + 1) cap6) (ys2 ++ [p])) := ⟨((HSN.out.1.bel hb8).setBlk hO8 (by decide) _).less (by omega), fun y hy => (((HSN.out.2.1 y hy).bel hb8).setBlk hO8 _).less (by omega), HSN.out.2.2, .inr HSO.out⟩
          have HS9 := Lib.hid (((HS7.out.bel hb8).set (p := ⟨w.heap.size + 1 + 1, 0, none⟩) (by show g < w.heap.size + 1 + 1; omega) (.slice A6 (ys2.length + 1) cap6)).more (m' := m + 2 + 34 * (K + 1 - (k - 1))) (by omega))
          have HW9 := Lib.hid ((HWR.out.trans hw8).fresh (p := ⟨w.heap.size + 1 + 1, 0, none⟩) (by show w.heap.size ≤ w.heap.size + 1 + 1; omega) (.slice A6 (ys2.length + 1) cap6))
          have HLE : Hid ((ys2 ++ [p]).length + (k - 1) ≤ K + 1) := by show _ ≤ _; rw [List.length_append, List.length_singleton, HL2.out]; omega
          clear hw8 hb8 hO8 hso
          go_wp2
          go_roundw
          · exact ⟨k - 1, _, ys2 ++ [p], HLE.out, by omega, by go_num, HR9.out, HN9.out, HO9.out, HD9.out, HS9.out, HW9.out⟩
          · simp [intOf]; omega
    · obtain rfl : k = 0 := by omega
      have r0 : wr.cell? ⟨w.heap.size, 0, none⟩ = some (.slice none 0 0) := (HRB.out.cell 0).trans rfl
      have fr := HRB.out.frozen 0
      have hrl := HRB.out.lt
      rcases HSD.out.ok with hnil | hso
      · subst hnil
        have HG := Lib.hid HSD.out.grow
        have hgw : g < w.heap.size + 3 := by omega
        have hnm : (⟨#[97, 100, 97]⟩ : ByteArray) ∈ snL := List.mem_cons_self
        have HNO := Lib.hid (sn_ok _ hnm)
        have HNS := Lib.hid (sn_size _ hnm)
        clear hC hnm
        go_wp2_with fail
        go_region_law ((first | (go_simp; go_at_call 73; refine (l04Draw_any g B A n xs (m + 2 + 34 * (K + 1 - 0)) (by omega) hn ⟨#[97, 100, 97]⟩ _ (HSR.out.bel ((Below.refl _ _).drew))).mono ?_; rintro e w4 ⟨p, rfl, hp, hop, hs4, hw4⟩; have hw34 : Within g (g + 1) wr w4 := Within.trans (.of_below _ _ ((Below.refl wr.heap.size wr).drew)) hw4; have hz4 := hw34.size; have o4 : w4.cell? ⟨w.heap.size + 1 + 1, 0, none⟩ = some (.slice A1 0 cap1) := ((HOB.out.after hw34 (by omega)).cell 0).trans rfl; have l4 : w.heap.size + 1 + 1 < w4.heap.size := (by omega); obtain ⟨W5, hW5⟩ : ∃ W5 : World, W5 = w4.alloc (.cells #[.string p.v.name, .int .i64 p.v.ax, .int .i64 p.v.ay, .int .i64 p.v.height, .int .i64 p.v.jib, .int .i64 p.v.back, .slice p.r.a p.r.n p.r.cap] 38) := ⟨_, rfl⟩; have hb5 : RowKit.Below w4.heap.size w4 W5 := (by rw [hW5]; exact (Below.refl _ _).alloc (Nat.le_refl _) _); have hz5 := hb5.size; have G5 := Lib.hid ((HG.out.far2 hw34 hgw).bel hb5); have O5 := Lib.hid ((HOB.out.after hw34 (by omega)).bel hb5); have R5 := Lib.hid ((HRB.out.after hw34 (by omega)).bel hb5); have HW34 := Lib.hid hw34; have HB5 := Lib.hid hb5; have S5 := Lib.hid (hs4.bel hb5); have HP := Lib.hid hp; have HOP := Lib.hid hop; have HW5 := Lib.hid hW5; clear hW5 hb5 hw34 hw4 hs4 hp hop) | (rw [← HW5.out]; refine step_snoc (by rfl) _ _ _ (by rfl) (w.heap.size + 3) 38 _ 80 Tryd.underlying24 CraneInfo rfl (by omega) (.slice A1 0 cap1) [] p (by rfl) G5.out w4.heap.size #[.string p.v.name, .int .i64 p.v.ax, .int .i64 p.v.ay, .int .i64 p.v.height, .int .i64 p.v.jib, .int .i64 p.v.back, .slice p.r.a p.r.n p.r.cap] (by rfl) (by rw [HW5.out]; exact heap_alloc_new w4 _) rfl rfl (Crane.cs_one _) (by simp) (by omega) (by omega) 1 rfl ?_; intro A6 cap6 w6 hg6 hgr6; have O6 : Blk w6 (w.heap.size + 1 + 1) 26 #[.slice A1 0 cap1] := O5.out.kept (by decide) G5.out hgr6; have R6 : Blk w6 w.heap.size 26 #[.slice none 0 0] := R5.out.kept (by decide) G5.out hgr6; have o6 : w6.cell? ⟨w.heap.size + 1 + 1, 0, none⟩ = some (.slice A1 0 cap1) := (O6.cell 0).trans rfl; have f6 : w6.frozen? ⟨w.heap.size + 1 + 1, 0, none⟩ = false := O6.frozen 0; have l6 : w.heap.size + 1 + 1 < w6.heap.size := O6.lt; have r6 : w6.cell? ⟨w.heap.size, 0, none⟩ = some (.slice none 0 0) := (R6.cell 0).trans rfl; have fr6 : w6.frozen? ⟨w.heap.size, 0, none⟩ = false := R6.frozen 0)))
        all_goals
          have hSN := site_next (nm := ⟨#[97, 100, 97]⟩) hgw G5.out (fun y hy => (by cases hy)) HW34.out HB5.out (by omega) HOP.out HP.out HNO.out HNS.out (fun y hy => (by cases hy)) hg6 hgr6 O6 (.slice A6 1 cap6)
          have hR7 := R6.far (p := ⟨w.heap.size + 1 + 1, 0, none⟩) (by show w.heap.size ≠ w.heap.size + 1 + 1; omega) (.slice A6 1 cap6)
          have HF : Hid (SiteD ((w6.setCell ⟨w.heap.size + 1 + 1, 0, none⟩ (.slice A6 1 cap6)).setCell ⟨w.heap.size, 0, none⟩ (.slice A6 1 cap6)) w.heap.size (.slice A6 1 cap6) ([] ++ [p])) := ⟨(hSN.1.setBlk hR7 (by decide) _).less (by omega), fun y hy => ((hSN.2.1 y hy).setBlk hR7 _).less (by omega), hSN.2.2, .inr (siteOk_one (HP.out.ok HNO.out))⟩
          have HSO := Lib.hid (siteOk_one (HP.out.ok HNO.out))
          have hS6 := S5.out.grown hgr6 (fun u e9 => by have := G5.out.lt u e9; omega)
          have HS9 := Lib.hid (((hS6.set (p := ⟨w.heap.size + 1 + 1, 0, none⟩) (by show g < w.heap.size + 1 + 1; omega) (.slice A6 1 cap6)).set (p := ⟨w.heap.size, 0, none⟩) hg (.slice A6 1 cap6)).more (m' := m + 200) (by omega))
          have hw6 : Within g (g + 1) w w6 := Grow.within G5.out ((HWR.out.trans HW34.out).trans (.of_below g (g + 1) HB5.out)) hgr6 (by omega)
          have HW9 := Lib.hid ((hw6.fresh (p := ⟨w.heap.size + 1 + 1, 0, none⟩) (by show w.heap.size ≤ w.heap.size + 1 + 1; omega) (.slice A6 1 cap6)).fresh (p := ⟨w.heap.size, 0, none⟩) (Nat.le_refl _) (.slice A6 1 cap6))
          have r7 : (w6.setCell ⟨w.heap.size + 1 + 1, 0, none⟩ (.slice A6 1 cap6)).cell? ⟨w.heap.size, 0, none⟩ = some (.slice none 0 0) := (hR7.cell 0).trans rfl
          clear hSN hR7 hS6 hw6 hg6 hgr6 R6 O6
          go_wp2
          exact bodyPost_ret (v := .agg #[.slice A6 1 cap6]) (by simp [results, Tryd.results30, go_sem, r7]) rfl ⟨_, [] ++ [p], rfl, HF.out, HSO.out, HS9.out, HW9.out⟩
      · have hl1 := (siteOk_len hso).1
        rw [List.length_map] at hl1
        have HF : Hid (SiteD (wr.setCell ⟨w.heap.size, 0, none⟩ (.slice A1 ys.length cap1)) w.heap.size (.slice A1 ys.length cap1) ys) := ⟨(HSD.out.grow.setBlk HRB.out (by decide) _).less (by omega), fun y hy => ((HSD.out.rows y hy).setBlk HRB.out _).less (by omega), HSD.out.good, .inr hso⟩
        have HSO := Lib.hid hso
        have HS9 := Lib.hid ((HSR.out.far (lo := w.heap.size) (hi := w.heap.size + 1) ((Within.refl _ _ _).setCell (p := ⟨w.heap.size, 0, none⟩) (Nat.le_refl _) (Nat.lt_succ_self _) (.slice A1 ys.length cap1)) hg).more (m' := m + 200) (by omega))
        have HW9 := Lib.hid (HWR.out.fresh (p := ⟨w.heap.size, 0, none⟩) (Nat.le_refl _) (.slice A1 ys.length cap1))
        have hne : ¬ (ys.length : Int) = 0 := by omega
        clear hso hC
        go_wp2
        exact bodyPost_ret (v := .agg #[.slice A1 ys.length cap1]) (by simp [results, Tryd.results30, go_sem, r0]) rfl ⟨_, ys, rfl, HF.out, HSO.out, HS9.out, HW9.out⟩
end Go.Proofs.YtkegncanmfmmmaaDoor
/- XHv7: A2Site and A2Places of the reference: a valid site, three places. -/
namespace Go.Proofs.YtkegncanmfmmmaaDoor
open Go.RowKit
set_option linter.unusedVariables false

/-- what A2Site hands back -/
structure SiteG (w : World) (lo : Nat) (A : Option Addr) (c : Nat) (ys : List Crane) : Prop where
  cranes : Cranes w lo w.heap.size A ys.length ys
  cap : ys.length ≤ c ∧ c ≤ 9223372036854775807
  wf : ∀ p ∈ ys, p.wf
  ok : siteOk (ys.map Crane.val) = true
theorem SiteG.bel {w w' : World} {lo : Nat} {A : Option Addr} {c : Nat} {ys : List Crane} (h : SiteG w lo A c ys) (hb : RowKit.Below w.heap.size w w') : SiteG w' lo A c ys :=
  ⟨(h.cranes.below hb).more hb.size, h.cap, h.wf, h.ok⟩
theorem SiteG.len {w : World} {lo : Nat} {A : Option Addr} {c : Nat} {ys : List Crane} (h : SiteG w lo A c ys) : 1 ≤ ys.length ∧ ys.length ≤ 6 := by
  have := siteOk_len h.ok
  rwa [List.length_map] at this
theorem SiteD.good_ {w : World} {lo : Nat} {v : Value} {ys : List Crane} (h : SiteD w lo v ys) (hok : siteOk (ys.map Crane.val) = true) : ∃ A c, v = .slice A ys.length c ∧ SiteG w lo A c ys := by
  obtain ⟨A, c, rfl, h1, h2⟩ := h.grow.slice
  exact ⟨A, c, rfl, h.cranes rfl, ⟨h1, h2⟩, fun p hp => (h.good p hp).wf, hok⟩
def SiteA2 (w : World) (e : Ending) (w' : World) : Prop :=
  ∃ A c ys, e = .returned (.agg #[.slice A ys.length c]) ∧ SiteG w' w.heap.size A c ys ∧ RowKit.Below w.heap.size w w'
theorem SiteG.low {w : World} {lo lo' : Nat} {A : Option Addr} {c : Nat} {ys : List Crane} (h : SiteG w lo A c ys) (hl : lo' ≤ lo) : SiteG w lo' A c ys :=
  ⟨h.cranes.less hl, h.cap, h.wf, h.ok⟩
set_option maxHeartbeats 800000 in
theorem a2Site_any (A : Option Addr) (n c : Nat) (xs : List Int) (w : World) (h : Arr bc 1 w 0 w.heap.size A n xs) (hx : ∀ x ∈ xs, 0 ≤ x ∧ x ≤ 255) (hn : n ≤ 1000000) :
    Calls Tryd.prog 8 #[.slice A n c] w (SiteA2 w) := by
  obtain ⟨W, hW⟩ : ∃ W : World, W = w.alloc (.cells #[.slice none 0 0] 26) := ⟨_, rfl⟩
  have hbW : RowKit.Below w.heap.size w W := by rw [hW]; exact (Below.refl _ _).alloc (Nat.le_refl _) _
  have hR : Blk W w.heap.size 26 #[.slice none 0 0] := by rw [hW]; exact Blk.new _ _ _
  have hz0 := hR.lt
  go_enter Tryd.func8, Tryd.ntmps8
  go_wp2_with fail
  rw [← hW]
  clear hW
  refine (l00From_any A n c W).mono ?_
  rintro e w1 ⟨rfl, hw1⟩
  have hb1 : RowKit.Below W.heap.size W w1 := by rw [hw1]; exact (Below.refl _ _).alloc (Nat.le_refl _) _
  have hS : Src w1 W.heap.size W.heap.size A n xs 0 := ⟨c, 0, 0, Nat.le_refl _, by omega, by omega, by rw [hw1]; exact Blk.new _ _ _, ((h.below hbW).more hbW.size).below hb1, hx, by omega⟩
  have hz := hS.lt
  clear hw1
  go_wp2_with fail
  refine (l04DrawSite_any W.heap.size W.heap.size A n xs 0 (by omega) hn w1 hS).mono ?_
  rintro e w2 ⟨v, ys, rfl, hd, hok, hs2, hw2⟩
  obtain ⟨A2, c2, rfl, hg⟩ := hd.good_ hok
  have hb2 : RowKit.Below w.heap.size w w2 := hbW.trans ((Below.within hb1 hw2 (Nat.le_refl _) (by omega)).mono hbW.size)
  have hR2 := (hR.bel hb1).after hw2 (by omega)
  have r0 : w2.cell? ⟨w.heap.size, 0, none⟩ = some (.slice none 0 0) := (hR2.cell 0).trans rfl
  have fr := hR2.frozen 0
  have hrl := hR2.lt
  have hd3 : SiteD (w2.setCell ⟨w.heap.size, 0, none⟩ (.slice A2 ys.length c2)) w1.heap.size (.slice A2 ys.length c2) ys := ⟨hd.grow.setBlk hR2 (by decide) _, fun y hy => (hd.rows y hy).setBlk hR2 _, hd.good, hd.ok⟩
  have hb3 : RowKit.Below w.heap.size w (w2.setCell ⟨w.heap.size, 0, none⟩ (.slice A2 ys.length c2)) := hb2.setCell (p := ⟨w.heap.size, 0, none⟩) (Nat.le_refl _) _
  have HF : Hid (SiteA2 w (.returned (.agg #[.slice A2 ys.length c2])) (w2.setCell ⟨w.heap.size, 0, none⟩ (.slice A2 ys.length c2))) := by
    obtain ⟨A3, c3, e3, hg3⟩ := hd3.good_ hok
    injection e3 with e1 e2 e4
    subst e1
    subst e4
    exact ⟨A2, c2, ys, rfl, hg3.low (by have := hbW.size; omega), hb3⟩
  clear hd hg hs2 hw2 hok hd3 hb3 hb2 hR2
  go_wp2
  exact bodyPost_ret (v := .agg #[.slice A2 ys.length c2]) (by simp [results, Tryd.results8, go_sem, r0]) rfl HF.out
/-- three places -/
def PlacesA2 (w : World) (e : Ending) (w' : World) : Prop :=
  ∃ px py qx qy rx ry : Int, e = .returned (.tuple #[.agg #[.int .i64 px, .int .i64 py], .agg #[.int .i64 qx, .int .i64 qy], .agg #[.int .i64 rx, .int .i64 ry]]) ∧ ((-600 ≤ px ∧ px ≤ 600) ∧ (-600 ≤ py ∧ py ≤ 600)) ∧ ((-600 ≤ qx ∧ qx ≤ 600) ∧ (-600 ≤ qy ∧ qy ≤ 600)) ∧ ((-600 ≤ rx ∧ rx ≤ 600) ∧ (-600 ≤ ry ∧ ry ≤ 600)) ∧ RowKit.Below w.heap.size w w'
section
variable {V w : World} {b b2 B : Nat}
def putPt (V : World) (b : Nat) (x y : Int) : World := (V.setCell ⟨b, 0, none⟩ (.int .i64 x)).setCell ⟨b, 1, none⟩ (.int .i64 y)
theorem putPt_eq (V : World) (b : Nat) (x y : Int) : (V.setCell ⟨b, 0, none⟩ (.int .i64 x)).setCell ⟨b, 1, none⟩ (.int .i64 y) = putPt V b x y := rfl
/-- a point's box, whatever it holds -/
def PtB (V : World) (b : Nat) : Prop := ∃ z0 z1 : Value, Blk V b 29 #[z0, z1]
theorem PtB.put (h : PtB V b) (x y : Int) : Blk (putPt V b x y) b 29 #[.int .i64 x, .int .i64 y] := by
  obtain ⟨z0, z1, h⟩ := h
  have h0 : Blk (V.setCell ⟨b, 0, none⟩ (.int .i64 x)) b 29 #[.int .i64 x, z1] := h.set_lit (i := 0) rfl
  exact h0.set_lit (i := 1) rfl
theorem pt_far {cs : Array Value} (h : Blk V b 29 cs) (hne : b ≠ b2) (x y : Int) : Blk (putPt V b2 x y) b 29 cs :=
  (h.far (p := ⟨b2, 0, none⟩) hne _).far (p := ⟨b2, 1, none⟩) hne _
theorem PtB.any (h : PtB V b) (b2 : Nat) (x y : Int) : PtB (putPt V b2 x y) b := by
  by_cases e : b = b2
  · subst e; exact ⟨_, _, h.put x y⟩
  · obtain ⟨z0, z1, h⟩ := h; exact ⟨_, _, pt_far h e x y⟩
theorem pt_bel (h : RowKit.Below B w V) (hb : B ≤ b) (x y : Int) : RowKit.Below B w (putPt V b x y) :=
  (h.setCell (p := ⟨b, 0, none⟩) hb _).setCell (p := ⟨b, 1, none⟩) hb _
end
set_option maxRecDepth 100000 in
theorem places_end (w : World) (px py qx qy rx ry : Int) (a : Act) (W' : World) (h2 : a.tmps.getD 2 undef = .pointer (some ⟨w.heap.size, 0, none⟩)) (h3 : a.tmps.getD 3 undef = .pointer (some ⟨w.heap.size + 1, 0, none⟩)) (h4 : a.tmps.getD 4 undef = .pointer (some ⟨w.heap.size + 1 + 1, 0, none⟩)) (hd : a.defers = [])
    (hB1 : Blk W' w.heap.size 29 #[.int .i64 px, .int .i64 py]) (hB2 : Blk W' (w.heap.size + 1) 29 #[.int .i64 qx, .int .i64 qy]) (hB3 : Blk W' (w.heap.size + 1 + 1) 29 #[.int .i64 rx, .int .i64 ry])
    (hp : (-600 ≤ px ∧ px ≤ 600) ∧ (-600 ≤ py ∧ py ≤ 600)) (hq : (-600 ≤ qx ∧ qx ≤ 600) ∧ (-600 ≤ qy ∧ qy ≤ 600)) (hr : (-600 ≤ rx ∧ rx ≤ 600) ∧ (-600 ≤ ry ∧ ry ≤ 600)) (hb : RowKit.Below w.heap.size w W') : bodyPost Tryd.prog Tryd.f9 (PlacesA2 w) Exit.ret a W' := by
  have c0 : W'.cell? ⟨w.heap.size, 0, none⟩ = some (.int .i64 px) := hB1.cell 0
  have c1 : W'.cell? ⟨w.heap.size, 1, none⟩ = some (.int .i64 py) := hB1.cell 1
  have e0 : W'.cell? ⟨w.heap.size + 1, 0, none⟩ = some (.int .i64 qx) := hB2.cell 0
  have e1 : W'.cell? ⟨w.heap.size + 1, 1, none⟩ = some (.int .i64 qy) := hB2.cell 1
  have g0 : W'.cell? ⟨w.heap.size + 1 + 1, 0, none⟩ = some (.int .i64 rx) := hB3.cell 0
  have g1 : W'.cell? ⟨w.heap.size + 1 + 1, 1, none⟩ = some (.int .i64 ry) := hB3.cell 1
  obtain ⟨tmps, defers⟩ := a
  dsimp only at h2 h3 h4 hd
  subst hd
  have k2 : tmps[2]?.getD undef = .pointer (some ⟨w.heap.size, 0, none⟩) := by simpa using h2
  have k3 : tmps[3]?.getD undef = .pointer (some ⟨w.heap.size + 1, 0, none⟩) := by simpa using h3
  have k4 : tmps[4]?.getD undef = .pointer (some ⟨w.heap.size + 1 + 1, 0, none⟩) := by simpa using h4
  exact bodyPost_ret (v := .tuple #[.agg #[.int .i64 px, .int .i64 py], .agg #[.int .i64 qx, .int .i64 qy], .agg #[.int .i64 rx, .int .i64 ry]]) (by simp [results, Tryd.results9, go_sem, k2, k3, k4, c0, c1, e0, e1, g0, g1]) rfl ⟨px, py, qx, qy, rx, ry, rfl, hp, hq, hr, hb⟩
set_option maxRecDepth 100000 in
set_option maxHeartbeats 3200000 in
theorem a2Places_any (A : Option Addr) (n c : Nat) (xs : List Int) (w : World) (h : Arr bc 1 w 0 w.heap.size A n xs) (hx : ∀ x ∈ xs, 0 ≤ x ∧ x ≤ 255) (hn : n ≤ 1000000) :
    Calls Tryd.prog 9 #[.slice A n c] w (PlacesA2 w) := by
  obtain ⟨W, hW⟩ : ∃ W : World, W = ((w.alloc (.cells #[.int .i64 0, .int .i64 0] 29)).alloc (.cells #[.int .i64 0, .int .i64 0] 29)).alloc (.cells #[.int .i64 0, .int .i64 0] 29) := ⟨_, rfl⟩
  have hbW : RowKit.Below w.heap.size w W := by rw [hW]; exact (((Below.refl _ _).alloc (Nat.le_refl _) _).alloc (by simp) _).alloc (by simp; omega) _
  have hB1 : PtB W w.heap.size := by rw [hW]; exact ⟨_, _, ((Blk.new _ _ _).alloc _).alloc _⟩
  have hB2 : PtB W (w.heap.size + 1) := by rw [hW]; exact ⟨_, _, (Blk.new_at rfl (by simp)).alloc _⟩
  have hB3 : PtB W (w.heap.size + 1 + 1) := by rw [hW]; exact ⟨_, _, Blk.new_at rfl (by simp)⟩
  have hsW : W.heap.size = w.heap.size + 3 := by rw [hW]; simp
  go_enter Tryd.func9, Tryd.ntmps9
  go_wp2_with fail
  rw [← hW]
  clear hW
  refine (l00From_any A n c W).mono ?_
  rintro e w1 ⟨rfl, hw1⟩
  have hb1 : RowKit.Below W.heap.size W w1 := by rw [hw1]; exact (Below.refl _ _).alloc (Nat.le_refl _) _
  have hS : Src w1 W.heap.size w.heap.size A n xs 0 := ⟨c, 0, 0, Nat.le_refl _, by omega, by omega, by rw [hw1]; exact Blk.new _ _ _, (h.below hbW).below (hb1.mono (by omega)), hx, by omega⟩
  have hs1 := hS.lt
  clear hw1
  obtain ⟨g, hg⟩ : ∃ g, W.heap.size = g := ⟨_, rfl⟩
  rw [hg] at hS hs1 ⊢
  go_wp2_with fail
  refine (l02Draw_any g w.heap.size A n xs 0 (by omega) hn w1 hS).mono ?_
  rintro e w2 ⟨px, py, rfl, hp1, hp2, hp3, hp4, hS2, hw2⟩
  have hs2 := hw2.size
  obtain ⟨W3, hW3⟩ : ∃ W3 : World, W3 = w2.alloc (.cells #[.int .i64 px, .int .i64 py] 29) := ⟨_, rfl⟩
  have hb3 : RowKit.Below w2.heap.size w2 W3 := by rw [hW3]; exact (Below.refl _ _).alloc (Nat.le_refl _) _
  have hP3 : Blk W3 w2.heap.size 29 #[.int .i64 px, .int .i64 py] := by rw [hW3]; exact Blk.new _ _ _
  have hs3 := hP3.lt
  go_wp2_with fail
  rw [← hW3]
  clear hW3
  refine (l02Draw_any g w.heap.size A n xs (0 + 4) (by omega) hn W3 (hS2.bel hb3)).mono ?_
  rintro e w4 ⟨qx, qy, rfl, hq1, hq2, hq3, hq4, hS4, hw4⟩
  have hs4 := hw4.size
  obtain ⟨W5, hW5⟩ : ∃ W5 : World, W5 = w4.alloc (.cells #[.int .i64 qx, .int .i64 qy] 29) := ⟨_, rfl⟩
  have hb5 : RowKit.Below w4.heap.size w4 W5 := by rw [hW5]; exact (Below.refl _ _).alloc (Nat.le_refl _) _
  have hQ5 : Blk W5 w4.heap.size 29 #[.int .i64 qx, .int .i64 qy] := by rw [hW5]; exact Blk.new _ _ _
  have hP5 : Blk W5 w2.heap.size 29 #[.int .i64 px, .int .i64 py] := (hP3.after hw4 (by omega)).bel hb5
  have hs5 := hQ5.lt
  have hw15 : Within g (g + 1) W W5 := (((((Within.of_below g (g + 1) (hb1.mono (Nat.le_refl _))).trans hw2).trans (.of_below g (g + 1) hb3)).trans hw4).trans (.of_below g (g + 1) hb5))
  have hS5 : Src W5.drew g w.heap.size A n xs (0 + 4 + 4) := (hS4.bel hb5).bel (Below.refl _ _).drew
  have hQd : Blk W5.drew w4.heap.size 29 #[.int .i64 qx, .int .i64 qy] := hQ5
  have hPd : Blk W5.drew w2.heap.size 29 #[.int .i64 px, .int .i64 py] := hP5
  have hw1d : Within g (g + 1) W W5.drew := hw15.trans (.of_below g (g + 1) (Below.refl _ _).drew)
  have hR1 : PtB W5.drew w.heap.size := by obtain ⟨z0, z1, hz⟩ := hB1; exact ⟨z0, z1, hz.after hw1d (by omega)⟩
  have hR2 : PtB W5.drew (w.heap.size + 1) := by obtain ⟨z0, z1, hz⟩ := hB2; exact ⟨z0, z1, hz.after hw1d (by omega)⟩
  have hR3 : PtB W5.drew (w.heap.size + 1 + 1) := by obtain ⟨z0, z1, hz⟩ := hB3; exact ⟨z0, z1, hz.after hw1d (by omega)⟩
  have d0 : W5.drew.cell? ⟨w2.heap.size, 0, none⟩ = some (.int .i64 px) := hPd.cell 0
  have d1 : W5.drew.cell? ⟨w2.heap.size, 1, none⟩ = some (.int .i64 py) := hPd.cell 1
  have d2 : W5.drew.cell? ⟨w4.heap.size, 0, none⟩ = some (.int .i64 qx) := hQd.cell 0
  have d3 : W5.drew.cell? ⟨w4.heap.size, 1, none⟩ = some (.int .i64 qy) := hQd.cell 1
  go_wp2_with fail
  rw [← hW5]
  clear hW5
  have hn1 : w.heap.size ≠ w4.heap.size := by omega
  have hn2 : w.heap.size + 1 ≠ w4.heap.size := by omega
  have hn3 : w4.heap.size ≠ w.heap.size := by omega
  have hn4 : w4.heap.size ≠ w.heap.size + 1 := by omega
  have hg1 : g ≠ w.heap.size := by omega
  have hg2 : g ≠ w.heap.size + 1 := by omega
  have hg3 : g ≠ w.heap.size + 1 + 1 := by omega
  have hg4 : g ≠ w2.heap.size := by omega
  have hg5 : g ≠ w4.heap.size := by omega
  have HS5 := Lib.hid hS5
  have HQD := Lib.hid hQd
  have HPD := Lib.hid hPd
  have HR1 : Hid (∀ w6, Within g (g + 1) W5.drew w6 → PtB w6 w.heap.size) := fun w6 h6 => by obtain ⟨z0, z1, hz⟩ := hR1; exact ⟨z0, z1, hz.after h6 hg1⟩
  have HR2 : Hid (∀ w6, Within g (g + 1) W5.drew w6 → PtB w6 (w.heap.size + 1)) := fun w6 h6 => by obtain ⟨z0, z1, hz⟩ := hR2; exact ⟨z0, z1, hz.after h6 hg2⟩
  have HR3 : Hid (∀ w6, Within g (g + 1) W5.drew w6 → PtB w6 (w.heap.size + 1 + 1)) := fun w6 h6 => by obtain ⟨z0, z1, hz⟩ := hR3; exact ⟨z0, z1, hz.after h6 hg3⟩
  have HBT : Hid (∀ w6, Within g (g + 1) W5.drew w6 → RowKit.Below w.heap.size w w6) := fun w6 h6 => Below.within hbW (hw1d.trans h6) (by omega) (by omega)
  have HPP : Hid ((-600 ≤ px ∧ px ≤ 600) ∧ (-600 ≤ py ∧ py ≤ 600)) := ⟨⟨hp1, hp2⟩, hp3, hp4⟩
  have HQQ : Hid ((-600 ≤ qx ∧ qx ≤ 600) ∧ (-600 ≤ qy ∧ qy ≤ 600)) := ⟨⟨hq1, hq2⟩, hq3, hq4⟩
  clear hS5 hQd hPd hw1d hw15 hR1 hR2 hR3 hP5 hQ5 hb5 hS4 hw4 hP3 hb3 hS2 hw2 hS hb1 hB1 hB2 hB3 hbW h hx hp1 hp2 hp3 hp4 hq1 hq2 hq3 hq4
  go_region_with ((first | (go_at_call 32; refine (l02Draw_any g w.heap.size A n xs (0 + 4 + 4) (by omega) hn W5.drew HS5.out).mono ?_; rintro e w6 ⟨rx, ry, rfl, hr1, hr2, hr3, hr4, hS6, hw6⟩; have HRR : Hid ((-600 ≤ rx ∧ rx ≤ 600) ∧ (-600 ≤ ry ∧ ry ≤ 600)) := ⟨⟨hr1, hr2⟩, hr3, hr4⟩; have hP6 := HPD.out.after hw6 hg4; have hQ6 := HQD.out.after hw6 hg5; have d06 : w6.cell? ⟨w2.heap.size, 0, none⟩ = some (.int .i64 px) := hP6.cell 0; have d16 : w6.cell? ⟨w2.heap.size, 1, none⟩ = some (.int .i64 py) := hP6.cell 1; have d26 : w6.cell? ⟨w4.heap.size, 0, none⟩ = some (.int .i64 qx) := hQ6.cell 0; have d36 : w6.cell? ⟨w4.heap.size, 1, none⟩ = some (.int .i64 qy) := hQ6.cell 1; have R1 := Lib.hid (HR1.out w6 hw6); have R2 := Lib.hid (HR2.out w6 hw6); have R3 := Lib.hid (HR3.out w6 hw6); have BT := Lib.hid (HBT.out w6 hw6); obtain ⟨z0, y0, k0⟩ := R1.out; obtain ⟨z1, y1, k1⟩ := R2.out; obtain ⟨z2, y2, k2⟩ := R3.out; have c0 : w6.cell? ⟨w.heap.size, 0, none⟩ = some z0 := k0.cell 0; have c1 : w6.cell? ⟨w.heap.size, 1, none⟩ = some y0 := k0.cell 1; have e0 : w6.cell? ⟨w.heap.size + 1, 0, none⟩ = some z1 := k1.cell 0; have e1 : w6.cell? ⟨w.heap.size + 1, 1, none⟩ = some y1 := k1.cell 1; have g0 : w6.cell? ⟨w.heap.size + 1 + 1, 0, none⟩ = some z2 := k2.cell 0; have g1 : w6.cell? ⟨w.heap.size + 1 + 1, 1, none⟩ = some y2 := k2.cell 1; have f0 := k0.frozen 0; have f1 := k0.frozen 1; have f2 := k1.frozen 0; have f3 := k1.frozen 1; have f4 := k2.frozen 0; have f5 := k2.frozen 1; clear hr1 hr2 hr3 hr4 hS6 hw6 hP6 hQ6 k0 k1 k2)))
  all_goals go_wp2
  all_goals rw [putPt_eq, putPt_eq, putPt_eq]
  all_goals exact places_end w px py qx qy rx ry _ _ rfl rfl rfl rfl (pt_far (pt_far (R1.out.put px py) (by omega) qx qy) (by omega) rx ry) (pt_far ((R2.out.any _ px py).put qx qy) (by omega) rx ry) (((R3.out.any _ px py).any _ qx qy).put rx ry) HPP.out HQQ.out HRR.out (pt_bel (pt_bel (pt_bel BT.out (Nat.le_refl _) px py) (by omega) qx qy) (by omega) rx ry)
end Go.Proofs.YtkegncanmfmmmaaDoor
