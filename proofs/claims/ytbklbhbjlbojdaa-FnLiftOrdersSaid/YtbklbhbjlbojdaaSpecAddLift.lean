/- AddLift of the reference: it hands back alXs and alCode (to be read). -/
import Derived.Test.YtbklbhbjlbojdaaLiftCopy
import Derived.Test.YtbklbhbjlbojdaaLifts3
import Derived.Test.YtbklbhbjlbojdaaSteps
namespace Go.Proofs.Ytbklbhbjlbojdaa
open Go.RowKit
set_option linter.unusedVariables false

def alCode (vs : List LV) (v : LV) : Int := if liftsOk vs then (if 0 ≤ fIdx (nameIs v.1.name) vs then 4 else if 10 ≤ vs.length then 5 else if liftsOk (vs ++ [v]) then 0 else 6) else 1
def alXs (vs : List LV) (v : LV) : List LV := if alCode vs v = 0 then vs ++ [v] else []
def RetLR (xs : List LV) (code : Int) (w : World) (e : Ending) (w' : World) : Prop :=
  ∃ A c ps', e = .returned (.tuple #[.slice A xs.length c, .int .i64 code]) ∧ ps'.map Lift.val = xs ∧ Lifts w' w.heap.size w'.heap.size A xs.length ps' ∧ Below w.heap.size w w'
theorem RetLR.nil {code : Int} {w w' : World} (hb : Below w.heap.size w w') : RetLR [] code w (.returned (.tuple #[.slice none 0 0, .int .i64 code])) w' :=
  ⟨none, 0, [], rfl, rfl, ⟨⟨rfl, fun h => absurd h (by simp)⟩, fun p hp => (by cases hp)⟩, hb⟩
theorem al_1 {vs : List LV} {v : LV} (h : liftsOk vs = false) : alXs vs v = [] ∧ alCode vs v = 1 := by
  have e : alCode vs v = 1 := by unfold alCode; rw [h]; rfl
  exact ⟨by unfold alXs; rw [e, if_neg (by decide)], e⟩
theorem al_4 {vs : List LV} {v : LV} (h : liftsOk vs = true) (h2 : 0 ≤ fIdx (nameIs v.1.name) vs) : alXs vs v = [] ∧ alCode vs v = 4 := by
  have e : alCode vs v = 4 := by unfold alCode; rw [h, if_pos rfl, if_pos h2]
  exact ⟨by unfold alXs; rw [e, if_neg (by decide)], e⟩
theorem al_5 {vs : List LV} {v : LV} (h : liftsOk vs = true) (h2 : ¬ 0 ≤ fIdx (nameIs v.1.name) vs) (h3 : 10 ≤ vs.length) : alXs vs v = [] ∧ alCode vs v = 5 := by
  have e : alCode vs v = 5 := by unfold alCode; rw [h, if_pos rfl, if_neg h2, if_pos h3]
  exact ⟨by unfold alXs; rw [e, if_neg (by decide)], e⟩
theorem al_6 {vs : List LV} {v : LV} (h : liftsOk vs = true) (h2 : ¬ 0 ≤ fIdx (nameIs v.1.name) vs) (h3 : ¬ 10 ≤ vs.length) (h4 : liftsOk (vs ++ [v]) = false) : alXs vs v = [] ∧ alCode vs v = 6 := by
  have e : alCode vs v = 6 := by unfold alCode; rw [h, if_pos rfl, if_neg h2, if_neg h3, h4]; rfl
  exact ⟨by unfold alXs; rw [e, if_neg (by decide)], e⟩
theorem al_0 {vs : List LV} {v : LV} (h : liftsOk vs = true) (h2 : ¬ 0 ≤ fIdx (nameIs v.1.name) vs) (h3 : ¬ 10 ≤ vs.length) (h4 : liftsOk (vs ++ [v]) = true) : alXs vs v = vs ++ [v] ∧ alCode vs v = 0 := by
  have e : alCode vs v = 0 := by unfold alCode; rw [h, if_pos rfl, if_neg h2, if_neg h3, h4]; rfl
  exact ⟨by unfold alXs; rw [e, if_pos rfl], e⟩

theorem l00Own_any (A : Option Addr) (ha : ∃ a, A = some a) (n c : Nat) (xs : List Int) (w : World) (lo : Nat) (h : Arr ic 1 w lo w.heap.size A n xs) (hn : n ≤ 1048576) :
    Calls Try.prog 83 #[.slice A n c] w (CloneG xs w) := by
  obtain ⟨a, rfl⟩ := ha
  exact l00Own_some a n c xs w lo h hn
theorem Grow.setOther {α : Type} {c : α → List Value} {k : Nat} {w : World} {lo : Nat} {e : TypeId} {v : Value} {xs : List α} (h : Grow c k w lo e v xs) {p : Addr} (hp : p.block < lo) (u : Value) : Grow c k (w.setCell p u) lo e v xs := by
  refine ⟨h.1, ?_⟩
  rcases h.2 with ⟨h1, h2⟩ | ⟨g, cap, cur, h1, h2, h3, h4⟩
  · exact .inl ⟨h1, h2⟩
  · exact .inr ⟨g, cap, cur, h1, h2, (Below.heap_setCell _ _ _ _ (by omega)).trans h3, h4⟩

set_option maxRecDepth 100000 in
set_option maxHeartbeats 3200000 in
theorem specAddLift_any (A : Option Addr) (n c : Nat) (ps : List Lift) (vs : List LV) (hv : ps.map Lift.val = vs) (l : Lift) (w : World) (lo lo2 : Nat) (h : Lifts w lo w.heap.size A n ps) (hn : n ≤ 1048576) (hc : n ≤ c) (hc2 : c ≤ 1048576) (hp : ∀ p ∈ ps, p.wf) (hpn : ∀ p ∈ ps, p.r.n ≤ 1048576) (ha : ∀ p ∈ ps, ∃ a, p.r.a = some a) (hl : l.wf) (hln : l.r.n ≤ 1048576) (hla : ∃ a, l.r.a = some a) (hr : Arr ic 1 w lo2 w.heap.size l.r.a l.r.n l.r.xs) :
    Calls Try.prog 16 #[.slice A n c, .agg #[.string l.v.name, .int .i64 l.v.weight, .int .i64 l.v.fx, .int .i64 l.v.fy, .int .i64 l.v.tx, .int .i64 l.v.ty, .int .i64 l.v.height, .int .i64 l.v.deadline, .slice l.r.a l.r.n l.r.cap]] w (RetLR (alXs vs l.val) (alCode vs l.val) w) := by
  have HV := Lib.hid hv
  have HP := Lib.hid hp
  have HPN := Lib.hid hpn
  have HA := Lib.hid ha
  have HL : Hid (vs.length = n) := by show _ = _; rw [lv_len hv, h.len]
  have hq : l.v.name.size ≤ 9223372036854775807 := hl.v.name
  have HLA := Lib.hid hla
  have HR := Lib.hid (show Arr ic 1 w lo2 w.heap.size l.r.a l.r.n l.r.xs from hr)
  clear hla hr
  obtain ⟨W, hW⟩ : ∃ W : World, W = w.alloc (.cells #[.string l.v.name, .int .i64 l.v.weight, .int .i64 l.v.fx, .int .i64 l.v.fy, .int .i64 l.v.tx, .int .i64 l.v.ty, .int .i64 l.v.height, .int .i64 l.v.deadline, .slice l.r.a l.r.n l.r.cap] 36) := ⟨_, rfl⟩
  have B0 : Below w.heap.size w W := by rw [hW]; exact (Below.refl _ _).alloc (Nat.le_refl _) _
  have P0 : Blk W w.heap.size 36 #[.string l.v.name, .int .i64 l.v.weight, .int .i64 l.v.fx, .int .i64 l.v.fy, .int .i64 l.v.tx, .int .i64 l.v.ty, .int .i64 l.v.height, .int .i64 l.v.deadline, .slice l.r.a l.r.n l.r.cap] := by rw [hW]; exact Blk.new _ _ _
  have HC := Lib.hid (h.next B0)
  clear h hv hp hpn ha
  cases h1 : liftsOk vs
  · have H1 := Lib.hid h1
    have H := Lib.hid (al_1 (v := l.val) h1)
    clear h1
    go_enter Try.func16, Try.ntmps16
    go_wp2_with fail
    rw [← hW]
    clear hW
    refine (l08Ok_any _ _ _ ps vs HV.out _ _ HC.out hn hc hc2 HP.out).mono ?_
    rintro e w1 ⟨rfl, hb1⟩
    rw [H1.out]
    go_wp2
    go_ret2
    rw [H.out.1, H.out.2]; exact RetLR.nil (B0.trans (hb1.mono B0.size))
  · have H1 := Lib.hid h1
    by_cases h2 : 0 ≤ fIdx (nameIs l.v.name) vs
    · have H := Lib.hid (al_4 (v := l.val) h1 h2)
      clear h1
      go_enter Try.func16, Try.ntmps16
      go_wp2_with fail
      rw [← hW]
      clear hW
      refine (l08Ok_any _ _ _ ps vs HV.out _ _ HC.out hn hc hc2 HP.out).mono ?_
      rintro e w1 ⟨rfl, hb1⟩
      rw [H1.out]
      have B1 := B0.trans (hb1.mono B0.size)
      have HC1 := Lib.hid (HC.out.next hb1)
      obtain ⟨d0, d1, d2, d3, d4, d5, d6, d7, d8⟩ := Lift.blk (P0.bel hb1)
      clear P0 hb1
      go_wp2_with fail
      refine (l08Named_any _ _ _ ps vs HV.out l.v.name _ _ _ HC1.out hn HP.out hq).mono ?_
      rintro e w2 ⟨rfl, rfl⟩
      go_wp2
      go_ret2
      rw [H.out.1, H.out.2]; exact RetLR.nil B1
    · by_cases h3 : 10 ≤ n
      · have H := Lib.hid (al_5 (v := l.val) h1 h2 (by rw [HL.out]; exact h3))
        clear h1
        go_enter Try.func16, Try.ntmps16
        go_wp2_with fail
        rw [← hW]
        clear hW
        refine (l08Ok_any _ _ _ ps vs HV.out _ _ HC.out hn hc hc2 HP.out).mono ?_
        rintro e w1 ⟨rfl, hb1⟩
        rw [H1.out]
        have B1 := B0.trans (hb1.mono B0.size)
        have HC1 := Lib.hid (HC.out.next hb1)
        obtain ⟨d0, d1, d2, d3, d4, d5, d6, d7, d8⟩ := Lift.blk (P0.bel hb1)
        clear P0 hb1
        go_wp2_with fail
        refine (l08Named_any _ _ _ ps vs HV.out l.v.name _ _ _ HC1.out hn HP.out hq).mono ?_
        rintro e w2 ⟨rfl, rfl⟩
        go_wp2
        go_ret2
        rw [H.out.1, H.out.2]; exact RetLR.nil B1
      · have H3 : Hid (¬ 10 ≤ vs.length) := by show ¬ _; rw [HL.out]; exact h3
        have H2 := Lib.hid h2
        have h2' : fIdx (nameIs l.v.name) vs = -1 := by rcases fIdx_cases (nameIs l.v.name) vs with ⟨e, _⟩ | ⟨k, x, e, _⟩ <;> omega
        have H2' := Lib.hid h2'
        clear h1 h2 h2'
        have hn10 : ¬ (10 : Int) ≤ (n : Int) := by omega
        go_enter Try.func16, Try.ntmps16
        go_wp2_with fail
        rw [← hW]
        clear hW
        refine (l08Ok_any _ _ _ ps vs HV.out _ _ HC.out hn hc hc2 HP.out).mono ?_
        rintro e w1 ⟨rfl, hb1⟩
        rw [H1.out]
        have B1 := B0.trans (hb1.mono B0.size)
        have HC1 := Lib.hid (HC.out.next hb1)
        have P1 := P0.bel hb1
        obtain ⟨d0, d1, d2, d3, d4, d5, d6, d7, d8⟩ := Lift.blk P1
        clear P0 hb1
        go_wp2_with fail
        refine (l08Named_any _ _ _ ps vs HV.out l.v.name _ _ _ HC1.out hn HP.out hq).mono ?_
        rintro e w2 ⟨rfl, rfl⟩
        rw [H2'.out]
        go_wp2_with fail
        refine (l08Copy_any _ _ _ ps w1 _ HC1.out hn HPN.out HA.out).mono ?_
        rintro e w3 ⟨v3, rfl, ps3, hg3, hv3, ho3, hb3⟩
        have B3 := B1.trans (hb3.mono B1.size)
        have P3 := P1.bel hb3
        have HG3 := Lib.hid hg3
        have HV3 := Lib.hid hv3
        have HO3 := Lib.hid ho3
        have hs13 := hb3.size
        have hw1 : w.heap.size < w1.heap.size := P1.lt
        clear d0 d1 d2 d3 d4 d5 d6 d7 d8 P1 hb3 hg3 hv3 ho3
        obtain ⟨d0, d1, d2, d3, d4, d5, d6, d7, d8⟩ := Lift.blk P3
        go_wp2_with fail
        refine (l00Own_any l.r.a HLA.out l.r.n l.r.cap l.r.xs w3 lo2 ((HR.out.below B3).more B3.size) hln).mono ?_
        rintro e w4 ⟨v4, rfl, hg4, hb4⟩
        obtain ⟨A4, c4, rfl, ho4⟩ := hg4.own ic_len
        have hxl : l.r.xs.length = l.r.n := HR.out.1
        rw [hxl] at ho4 ⊢
        have B4 := B3.trans (hb4.mono B3.size)
        have P4 := P3.bel hb4
        have f8 := P4.frozen 8
        have hs34 := hb4.size
        clear d0 d1 d2 d3 d4 d5 d6 d7 d8 P3 hg4
        obtain ⟨d0, d1, d2, d3, d4, d5, d6, d7, d8⟩ := Lift.blk P4
        have hp4 : w.heap.size < w4.heap.size := P4.lt
        obtain ⟨W5, hW5⟩ : ∃ W5 : World, W5 = (w4.setCell ⟨w.heap.size, 8, none⟩ (.slice A4 l.r.n c4)).alloc (.cells #[.string l.v.name, .int .i64 l.v.weight, .int .i64 l.v.fx, .int .i64 l.v.fy, .int .i64 l.v.tx, .int .i64 l.v.ty, .int .i64 l.v.height, .int .i64 l.v.deadline, .slice A4 l.r.n c4] 36) := ⟨_, rfl⟩
        have HWi : Within w.heap.size (w.heap.size + 1) w4 (w4.setCell ⟨w.heap.size, 8, none⟩ (.slice A4 l.r.n c4)) := (Within.refl _ _ _).setCell (p := ⟨w.heap.size, 8, none⟩) (Nat.le_refl _) (Nat.lt_succ_self _) _
        have HG5 : Hid (Grow Lift.cs 9 W5 w1.heap.size 36 v3 ps3) := by show Grow _ _ _ _ _ _ _; rw [hW5]; exact ((HG3.out.bel hb4).setOther (p := ⟨w.heap.size, 8, none⟩) hw1 _).alloc _
        have HO5 : Hid (∀ q ∈ ps3, Own ic 1 W5 w1.heap.size w3.heap.size 2 q.r.a q.r.n q.r.xs) := by
          intro q hq
          rw [hW5]
          exact (((HO3.out q hq).bel hb4).within HWi (.inr (by omega))).bel ((Below.refl _ _).alloc (Nat.le_refl _) _)
        have HN5 : Hid (Own ic 1 W5 w3.heap.size w4.heap.size 2 A4 l.r.n l.r.xs) := by
          show Own _ _ _ _ _ _ _ _ _
          rw [hW5]
          exact (ho4.within HWi (.inr (by omega))).bel ((Below.refl _ _).alloc (Nat.le_refl _) _)
        have HB5 : Hid (Below w.heap.size w W5) := by show Below _ _ _; rw [hW5]; exact (B4.setCell (p := ⟨w.heap.size, 8, none⟩) (Nat.le_refl _) _).alloc (by simp; omega) _
        have hs5 : W5.heap.size = w4.heap.size + 1 := by rw [hW5]; simp
        have HW5 := Lib.hid hW5
        have hpl : ps3.length = n := by have := congrArg List.length HV3.out; rw [List.length_map, List.length_map] at this; rw [this, ← HL.out, ← HV.out, List.length_map]
        have HPLN := Lib.hid hpl
        clear hW5 hb4 ho4 HWi
        go_wp2_with (at_builtin; rw [← HW5.out]; refine wpList_snoc _ rfl _ _ 30 rfl w1.heap.size 36 _ _ Try.underlying30 LiftInfo rfl (by omega) _ ps3 (⟨l.v, ⟨A4, l.r.n, c4, l.r.xs⟩⟩ : Lift) rfl HG5.out _ _ rfl (by rw [HW5.out]; exact heap_new_at _ _ (by simp)) rfl rfl (Lift.cs_one _) (by omega) (by omega) (by omega) ?_; intro v6 w6 hg6 hgr6)
        have hs6 := hgr6.size
        have HB6 : Hid (Below w.heap.size w w6) := (HG5.out.less (Nat.le_of_lt hw1)).below HB5.out hgr6 (Nat.le_refl _) (by omega)
        have HO6 : Hid (∀ q ∈ ps3 ++ [(⟨l.v, ⟨A4, l.r.n, c4, l.r.xs⟩⟩ : Lift)], Arr ic 1 w6 w.heap.size w6.heap.size q.r.a q.r.n q.r.xs) := by
          intro q hq
          rcases List.mem_append.1 hq with hq | hq
          · exact ((Own.kept (HO5.out q hq) (by decide) HG5.out hgr6).wide (by omega) (by omega)).arr ic_len
          · rw [List.mem_singleton] at hq; subst hq
            exact ((Own.kept HN5.out (by decide) HG5.out hgr6).wide (by omega) (by omega)).arr ic_len
        have HV6 : Hid ((ps3 ++ [(⟨l.v, ⟨A4, l.r.n, c4, l.r.xs⟩⟩ : Lift)]).map Lift.val = vs ++ [l.val]) := by show _ = _; rw [List.map_append, HV3.out, HV.out]; rfl
        have HF6 : Hid (∀ q ∈ ps3 ++ [(⟨l.v, ⟨A4, l.r.n, c4, l.r.xs⟩⟩ : Lift)], q.wf) := by
          intro q hq
          have hqa := HO6.out q hq
          rcases List.mem_append.1 hq with hq | hq
          · obtain ⟨p, hp, e⟩ := mem_same HV3.out hq
            simp only [Lift.val, Prod.mk.injEq] at e
            have hpw := HP.out p hp
            have hpl2 := (HC1.out.2 p hp).1
            exact ⟨by rw [← e.1]; exact hpw.v, by rw [← hqa.1, ← e.2, hpl2]; exact hpw.n, trivial⟩
          · rw [List.mem_singleton] at hq; subst hq
            exact ⟨hl.v, hl.n, trivial⟩
        have hl6 : (ps3 ++ [(⟨l.v, ⟨A4, l.r.n, c4, l.r.xs⟩⟩ : Lift)]).length = n + 1 := by rw [List.length_append, HPLN.out]; rfl
        obtain ⟨A6, c6, hv6, ho6⟩ := hg6.own Lift.cs_len
        obtain ⟨g7, c7, _, hv7, _, _, _, hcap, hmax, _⟩ := hg6.parts (by omega)
        rw [hl6] at hv6 ho6 hv7 hcap
        rw [hv6] at hv7
        injection hv7 with e1 e2 e3
        subst e3
        have HLF : Hid (Lifts w6 w.heap.size w6.heap.size A6 (n + 1) (ps3 ++ [(⟨l.v, ⟨A4, l.r.n, c4, l.r.xs⟩⟩ : Lift)])) := ⟨(ho6.wide (by omega) (Nat.le_refl _)).arr Lift.cs_len, HO6.out⟩
        have hmx : c6 ≤ 9223372036854775807 := by unfold maxLen at hmax; omega
        have HLV : Hid ((vs ++ [l.val]).length = n + 1) := by show _ = _; rw [List.length_append, HL.out]; rfl
        clear hg6 hgr6 ho6 e1 hl6 hpl
        rw [hv6]
        clear hv6
        refine (l08OkC_any A6 (n + 1) c6 _ (vs ++ [l.val]) HV6.out w6 _ HLF.out (by omega) hcap hmx HF6.out).mono ?_
        rintro e w7 ⟨rfl, hb7⟩
        have HB7 := Lib.hid (HB6.out.trans (hb7.mono HB6.out.size))
        have HLG := Lib.hid ((HLF.out.below hb7).more hb7.size)
        clear hb7
        cases h4 : liftsOk (vs ++ [l.val])
        · have H := Lib.hid (al_6 (v := l.val) H1.out (by have := H2.out; show ¬ 0 ≤ fIdx (nameIs l.v.name) vs; omega) H3.out h4)
          clear h4
          go_wp2
          go_ret2
          rw [H.out.1, H.out.2]; exact RetLR.nil HB7.out
        · have H := Lib.hid (al_0 (v := l.val) H1.out (by have := H2.out; show ¬ 0 ≤ fIdx (nameIs l.v.name) vs; omega) H3.out h4)
          clear h4
          go_wp2
          go_ret2
          rw [H.out.1, H.out.2]
          exact ⟨A6, c6, _, by rw [HLV.out]; rfl, HV6.out, by rw [HLV.out]; exact HLG.out, HB7.out⟩
end Go.Proofs.Ytbklbhbjlbojdaa
