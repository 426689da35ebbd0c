/- ReadClimbs of the program: the climbs that a text tells, if it tells any. -/
import Derived.Test.YtkegncanmfmmmaaDoorRdClLaw
import Derived.Test.YtkegncanmfmmmaaDoorSteps
import Derived.Deep.RegionHeld3
import Derived.StillTailTactics
namespace Go.Proofs.YtkegncanmfmmmaaDoor
open Go.RowKit
set_option linter.unusedVariables false

def RetCl (s : ByteArray) (w : World) (e : Ending) (w' : World) : Prop :=
  Below w.heap.size w w' ∧ ((∃ xs A cap, IsClimbs s xs ∧ e = .returned (.tuple #[.slice A xs.length cap, .bool true]) ∧ Own Climb.cs 2 w' w.heap.size w'.heap.size 78 A xs.length xs) ∨ ((¬ ∃ xs, IsClimbs s xs) ∧ e = .returned (.tuple #[.slice none 0 0, .bool false])))
theorem RetCl.no {s : ByteArray} {w w' : World} (hb : Below w.heap.size w w') (hn : ¬ ∃ xs, IsClimbs s xs) : RetCl s w (.returned (.tuple #[.slice none 0 0, .bool false])) w' := ⟨hb, .inr ⟨hn, rfl⟩⟩
theorem trimPlus_any (s : ByteArray) (w : World) : Calls Tryd.prog 50 #[.string s, .string ⟨#[43]⟩] w fun e w' => e = .returned (.string ⟨(Lib.trimPrefix s.data.toList [43]).toArray⟩) ∧ w' = w := Tryd.strings_TrimPrefix s ⟨#[43]⟩ w
theorem two_words (w : World) (a b : ByteArray) (t : TypeId) : Arr wc 1 (w.alloc (.cells #[.string a, .string b] t)) w.heap.size (w.heap.size + 1) (some ⟨w.heap.size, 0, none⟩) 2 [a, b] := by
  refine ⟨rfl, fun _ => ⟨w.heap.size, 0, rfl, Nat.le_refl _, Nat.lt_succ_self _, fun i x hx j u hu => ?_⟩⟩
  have hi : i < 2 := (List.getElem?_eq_some_iff.1 hx).1
  have hj : j = 0 := by have := (List.getElem?_eq_some_iff.1 hu).1; simp [wc] at this; exact this
  subst hj
  simp [wc] at hu
  subst hu
  have : i = 0 ∨ i = 1 := by omega
  rcases this with rfl | rfl
  · simp at hx; subst hx; simp
  · simp at hx; subst hx; simp
theorem num_is {l : List UInt8} (h : numB l = true) : ∃ x, numO l = some x := by
  unfold numB at h
  exact Option.isSome_iff_exists.1 h
theorem retN_no {ss : List ByteArray} {w w' : World} {e : Ending} (h : RetN ss w e w') (hok : ss.all wOk = false) : e = .returned (.tuple #[.slice none 0 0, .bool false]) ∧ Below w.heap.size w w' := by
  rcases h.1 with ⟨h1, _⟩ | ⟨_, h1⟩
  · rw [hok] at h1; cases h1
  · exact ⟨h1, h.2⟩
theorem retN_ok {q1 q2 : ByteArray} {w w' : World} {e : Ending} (h : RetN [q1, q2] w e w') (hok : [q1, q2].all wOk = true) : ∃ g cap, e = .returned (.tuple #[.slice (some ⟨g, 0, none⟩) 2 cap, .bool true]) ∧ w.heap.size ≤ g ∧ g < w'.heap.size ∧ w'.cell? ⟨g, 0, none⟩ = some (.int .i64 (([q1, q2].map wV)[0]?.getD 0)) ∧ w'.cell? ⟨g, 1, none⟩ = some (.int .i64 (([q1, q2].map wV)[1]?.getD 0)) ∧ Below w.heap.size w w' := by
  rcases h.1 with ⟨_, A, cap, rfl, ho⟩ | ⟨h1, _⟩
  · obtain ⟨g, cs, rfl, g1, g2, g3, g4, g5⟩ := ho.2 (by simp)
    have hb : Blk w' g 2 cs := g3
    exact ⟨g, cap, rfl, g1, g2, by rw [hb.cell]; exact g5 0 _ rfl 0 (by decide), by rw [hb.cell]; exact g5 1 _ rfl 0 (by decide), h.2⟩
  · rw [hok] at h1; cases h1
set_option maxRecDepth 100000 in
set_option maxHeartbeats 6400000 in
theorem readClimbs_any (s : ByteArray) (hs : s.size ≤ 1048576) (w : World) (ht : TabW w) (hE : ErrW w) : Calls Tryd.prog 16 #[.string s] w (RetCl s w) := by
  have HT := Lib.hid ht
  have HE := Lib.hid hE
  have hnl := words_len s
  clear ht hE
  go_enter Tryd.func16, Tryd.ntmps16
  go_wp2_with (go_at_call 47; refine (splitWords_any s _ hs).mono ?_; rintro e w1 ⟨A0, cap0, rfl, ho0, hb0⟩; have HO0 := Lib.hid (ho0.arr wc_len); have HB0 := Lib.hid hb0; clear ho0 hb0)
  obtain ⟨n, hn⟩ : ∃ n, n = (wordsOf s).length := ⟨_, rfl⟩
  have HN := Lib.hid hn
  have hn1 : n ≤ 1048577 := by omega
  rw [← hn] at HO0 ⊢
  clear hn hnl
  go_loopw [4, 13] (fun v i wr => ∃ (k : Nat) (ys : List Climb), k ≤ n ∧ i = .int .i64 k ∧ ReadTo s ys k ∧ (∀ p ∈ ys, p.wf) ∧ Grow Climb.cs 2 wr w1.heap.size 78 v ys ∧ Below w1.heap.size w1 wr) (fun _ i _ => n - (intOf i).toNat)
  case atStart => exact ⟨0, [], Nat.zero_le _, rfl, ReadTo.zero s, fun p hp => (by cases hp), Grow.nil _ _ _, Below.refl _ _⟩
  case round v _ =>
    obtain ⟨k, ys, hk, rfl, hrd, hwf, hg, hb⟩ := hrel
    have HRD := Lib.hid hrd
    have HWF := Lib.hid hwf
    have HG := Lib.hid hg
    have HB := Lib.hid hb
    have hsz := hb.size
    have hyl : ys.length = k := hrd.1
    have HYL := Lib.hid hyl
    have HB01 := Lib.hid (HB0.out.trans (hb.mono HB0.out.size))
    clear hrd hwf hyl
    by_cases hlt : k < n
    · obtain ⟨b, off, wd, rfl, hx, _, hbl, c0⟩ := wc_at (HO0.out.below hb) hlt
      have HX := Lib.hid hx
      have hwl : wd.size ≤ s.size := fields_size isBlank s wd (List.mem_of_getElem? hx)
      have hk0 : (0 : Int) ≤ (k : Int) := by omega
      have hk1 : (k : Int) < (n : Int) := by omega
      obtain ⟨Ay, capy, rfl⟩ := hg.form
      clear hx hb hg
      go_wp2_with fail
      refine (indexAny_any wd (by omega) _).mono ?_
      rintro e w2 ⟨v2, rfl, hv2, hb2⟩
      have HV2 := Lib.hid hv2
      have hsz2 := hb2.size
      have HB2 := Lib.hid hb2
      by_cases hneg : v2 < 0
      · have HNO := Lib.hid (no_climbs HX.out hv2 (fun c hp => absurd hp.pos (by omega)))
        clear hv2 hb2
        go_wp2
        go_ret2
        exact RetCl.no (HB01.out.trans (HB2.out.mono (by have := HB01.out.size; omega))) HNO.out
      · obtain ⟨a, rfl⟩ := Int.eq_ofNat_of_zero_le (show 0 ≤ v2 by omega)
        have ha : a < wd.size := by have := hv2.2.1; omega
        have ha0 : (0 : Int) ≤ (a : Int) := by omega
        have ha1 : (a : Int) ≤ (wd.size : Int) := by omega
        clear hv2 hb2
        have HBD : Hid (Below wr.heap.size wr w2.drew) := HB2.out.drew
        obtain ⟨q1, hq1⟩ : ∃ q, q = wd.extract 0 a := ⟨_, rfl⟩
        obtain ⟨q2, hq2⟩ : ∃ q : ByteArray, q = ⟨(Lib.trimPrefix (wd.extract a wd.size).data.toList [43]).toArray⟩ := ⟨_, rfl⟩
        have hbd := HBD.out.size
        have hsz1 : q1.size ≤ 1048576 := by rw [hq1, ByteArray.size_extract]; omega
        have hsz2 : q2.size ≤ 1048576 := by
          rw [hq2, list_size]
          have : ∀ l : List UInt8, (Lib.trimPrefix l [43]).length ≤ l.length := fun l => by unfold Lib.trimPrefix; split <;> simp
          refine Nat.le_trans (this _) ?_
          have h9 : (wd.extract a wd.size).data.toList.length = (wd.extract a wd.size).size := Array.length_toList
          rw [h9, ByteArray.size_extract]; omega
        have hpar : ∀ c : Climb, Parsed wd (a : Int) c → numO q1.data.toList = some c.crane ∧ numO q2.data.toList = some c.sections := fun c hp => by
          have e1 := hp.crane; have e2 := hp.sections
          rw [Int.toNat_natCast] at e1 e2
          exact ⟨by rw [hq1]; exact e1, by rw [hq2]; simpa using e2⟩
        have hmk : ∀ c : Climb, numO q1.data.toList = some c.crane → numO q2.data.toList = some c.sections → Parsed wd (a : Int) c := fun c e1 e2 => by
          refine ⟨HV2.out, by omega, ?_, ?_⟩
          · rw [Int.toNat_natCast, ← hq1]; exact e1
          · rw [Int.toNat_natCast]; rw [hq2] at e2; simpa using e2
        have HPAR := Lib.hid hpar
        have HMK := Lib.hid hmk
        have HTR : Hid (∀ W, Calls Tryd.prog 50 #[.string (wd.extract a wd.size), .string ⟨#[43]⟩] W fun e w' => e = .returned (.string q2) ∧ w' = W) := fun W => by rw [hq2]; exact trimPlus_any _ W
        clear hpar hmk
        have hxa : wd.extract 0 a = q1 := hq1.symm
        clear hq1 hq2
        have HRA := Lib.hid (readAll_any (some ⟨w2.drew.heap.size, 0, none⟩) 2 2 [q1, q2] (w2.drew.alloc (.cells #[.string q1, .string q2] 9)) w2.drew.heap.size ((two_words w2.drew q1 q2 _).more (by simp)) (by omega) (fun x hx => by simp at hx; rcases hx with rfl | rfl <;> omega) (((HT.out.bel HB01.out).bel HBD.out).bel ((Below.refl _ _).alloc (Nat.le_refl _) _)) (((HE.out.bel HB01.out).bel HBD.out).bel ((Below.refl _ _).alloc (Nat.le_refl _) _)))
        clear hsz1 hsz2
        cases hok : ([q1, q2].all wOk)
        · have HNO := Lib.hid (no_climbs HX.out HV2.out (fun c hp => by
            obtain ⟨e1, e2⟩ := HPAR.out c hp
            have h1 := (num_some e1).2; have h2 := (num_some e2).2
            simp [wOk, h1, h2] at hok))
          have HRN := Lib.hid (HRA.out.mono fun e w' h => retN_no h hok)
          clear hok
          go_wp2_with fail
          go_region_held3 (fun w' => True) (trivial) ((first | (go_at_call 50; refine (HTR.out _).mono ?_; rintro e w3 ⟨rfl, rfl⟩) | (go_at_call 49; refine HRN.out.mono ?_; rintro e w5 ⟨rfl, hb5⟩)))
          have HB5 := Lib.hid (HBD.out.trans (((Below.refl _ _).alloc (Nat.le_refl _) (.cells #[.string q1, .string q2] 9)).trans (hb5.mono (by simp))|>.mono hbd))
          clear hb5
          go_wp2
          go_ret2
          exact RetCl.no (HB01.out.trans (HB5.out.mono (by have := HB01.out.size; omega))) HNO.out
        · obtain ⟨x1, hx1⟩ : ∃ x, numO q1.data.toList = some x := num_is (by simp [wOk] at hok; exact hok.1)
          obtain ⟨x2, hx2⟩ : ∃ x, numO q2.data.toList = some x := num_is (by simp [wOk] at hok; exact hok.2)
          have HPS := Lib.hid (HMK.out ⟨x1, x2⟩ hx1 hx2)
          have hm : [q1, q2].map wV = [x1, x2] := by simp [wV, (num_some hx1).1, (num_some hx2).1]
          have HRN := Lib.hid (HRA.out.mono fun e w' h => by have := retN_ok h hok; rw [hm] at this; exact this)
          have HX1 := Lib.hid hx1
          have HX2 := Lib.hid hx2
          clear hok hm hx1 hx2
          go_wp2_with fail
          go_region_held3 (fun w' => True) (trivial) ((first | (go_at_call 50; refine (HTR.out _).mono ?_; rintro e w3 ⟨rfl, rfl⟩) | (go_at_call 49; refine HRN.out.mono ?_; rintro e w5 ⟨g5, cap5, rfl, hg1, hg2, hc0, hc1, hb5⟩)))
          simp only [List.getElem?_cons_zero, List.getElem?_cons_succ, Option.getD_some] at hc0 hc1
          have hbw : Below wr.heap.size wr w5 := HBD.out.trans (((Below.refl _ _).alloc (Nat.le_refl _) (.cells #[.string q1, .string q2] 9)).trans (hb5.mono (by simp))|>.mono hbd)
          have hg1' : wr.heap.size ≤ g5 := by simp at hg1; omega
          have HG5 := Lib.hid (HG.out.bel hbw)
          have HBW := Lib.hid hbw
          have hs5 := hbw.size
          have HNE : Hid (∀ g, (Value.slice Ay ys.length capy).ownBlock = some g → w1.heap.size ≤ g) := fun g hg => (HG.out.lt g hg).1
          have HNB : Hid (some g5 ≠ (Value.slice Ay ys.length capy).ownBlock) := fun hh => by have := (HG.out.lt g5 hh.symm).2; omega
          have r1 := numO_range HX1.out
          have r2 := numO_range HX2.out
          have HWF2 : Hid (∀ p ∈ ys ++ [(⟨x1, x2⟩ : Climb)], p.wf) := fun p hp => by
            rcases List.mem_append.1 hp with hp | hp
            · exact HWF.out p hp
            · rw [List.mem_singleton.1 hp]; exact ⟨⟨by show _ ≤ x1; omega, by show x1 ≤ _; omega⟩, ⟨by show _ ≤ x2; omega, by show x2 ≤ _; omega⟩⟩
          have HGX : Hid (Grow Climb.cs 2 (w5.alloc (.cells #[.int .i64 x1, .int .i64 x2] 78)).drew w1.heap.size 78 (.slice Ay ys.length capy) ys) := (HG5.out.alloc _).bel ((Below.refl _ _).drew)
          have HAN : Hid ((w5.alloc (.cells #[.int .i64 x1, .int .i64 x2] 78)).drew.heap[w5.heap.size]? = some (.cells #[.int .i64 x1, .int .i64 x2] 78 (0, 0))) := heap_alloc_new w5 _
          have HL1 : Hid (ys.length + 1 ≤ 4194304) := by have := HYL.out; show _ ≤ _; omega
          have HSZ : Hid (w1.heap.size ≤ (w5.alloc (.cells #[.int .i64 x1, .int .i64 x2] 78)).drew.heap.size) := by show w1.heap.size ≤ (w5.alloc _).heap.size; simp; omega
          have HKK : Hid (∀ w6, (w5.alloc (.cells #[.int .i64 x1, .int .i64 x2] 78)).drew.grownBy w6 (Value.slice Ay ys.length capy).ownBlock → w6.cell? ⟨g5, 0, none⟩ = some (.int .i64 x1) ∧ w6.cell? ⟨g5, 1, none⟩ = some (.int .i64 x2)) := fun w6 hgrow =>
            And.intro ((World.cell?_of_block (hgrow.block g5 (show g5 < (w5.alloc (.cells #[.int .i64 x1, .int .i64 x2] 78)).drew.heap.size from by show g5 < (w5.alloc _).heap.size; simp; omega) HNB.out)).trans (show (w5.alloc (.cells #[.int .i64 x1, .int .i64 x2] 78)).cell? ⟨g5, 0, none⟩ = _ from (World.cell?_alloc_lt w5 _ ⟨g5, 0, none⟩ hg2).trans hc0)) ((World.cell?_of_block (hgrow.block g5 (show g5 < (w5.alloc (.cells #[.int .i64 x1, .int .i64 x2] 78)).drew.heap.size from by show g5 < (w5.alloc _).heap.size; simp; omega) HNB.out)).trans (show (w5.alloc (.cells #[.int .i64 x1, .int .i64 x2] 78)).cell? ⟨g5, 1, none⟩ = _ from (World.cell?_alloc_lt w5 _ ⟨g5, 1, none⟩ hg2).trans hc1))
          clear hb5 hbw hg1 r1 r2
          go_wp2
          go_region_held3 (fun w' => w'.cell? ⟨g5, 0, none⟩ = some (.int .i64 x1) ∧ w'.cell? ⟨g5, 1, none⟩ = some (.int .i64 x2)) (first | go_keep | exact K1) ((refine step_snoc (by rfl) _ _ _ (by rfl) w1.heap.size 78 (.agg #[.int .i64 0, .int .i64 0]) 16 Tryd.underlying44 ClimbInfo rfl (by decide) (.slice Ay ys.length capy) ys (⟨x1, x2⟩ : Climb) (by rfl) HGX.out w5.heap.size #[.int .i64 x1, .int .i64 x2] (by rfl) HAN.out rfl rfl (Climb.cs_one _) HL1.out (by decide) HSZ.out (ys.length + 1) rfl ?_; intro A6 cap6 w6 hg6 hgrow; have K1 := HKK.out w6 hgrow))
          all_goals
            go_wp2
            go_roundw
            · exact ⟨k + 1, ys ++ [⟨x1, x2⟩], by omega, by go_num, HRD.out.step HX.out HPS.out, HWF2.out, hg6, ((((HB.out.trans (HBW.out.mono hsz)).alloc (by omega) (.cells #[.int .i64 x1, .int .i64 x2] 78)).drew).grown hgrow (by show w1.heap.size ≤ (w5.alloc _).heap.size; simp; omega) HNE.out)⟩
            · simp [intOf]; omega
    · obtain rfl : k = n := by omega
      have HRW : Hid (ReadTo s ys (wordsOf s).length) := by show ReadTo _ _ _; rw [← HN.out]; exact HRD.out
      obtain ⟨Ay, capy, rfl⟩ := hg.form
      obtain ⟨A7, cap7, e7, ho7⟩ := hg.own Climb.cs_len
      cases e7
      have HO7 := Lib.hid ho7
      have HAR := Lib.hid (ho7.arr Climb.cs_len)
      have hyk : ys.length = k := HYL.out
      clear hg ho7 hb hyk
      cases hok : climbsOk ys
      · have HNO : Hid (¬ ∃ xs, IsClimbs s xs) := by
          rintro ⟨xs, hx⟩
          have e := HRW.out.whole hx
          have := hx.1
          rw [e, hok] at this; cases this
        have HK := Lib.hid hok
        clear hok
        go_wp2_with (go_at_call 51; refine (climbsOk_eq Ay ys.length capy ys _ w1.heap.size HAR.out (by have := HYL.out; omega) HK.out).mono ?_; rintro e w2 ⟨rfl, hb2⟩)
        go_ret2
        exact RetCl.no (HB01.out.trans (hb2.mono (by have := HB01.out.size; omega))) HNO.out
      · have hn60 : ys.length ≤ 60 := climbsOk_len hok
        have hcm : cmS ys = ⟨(cText ys).toArray⟩ := by unfold cmS; rw [hok]; rfl
        have HK := Lib.hid hok
        by_cases heq : cmS ys = s
        · have HIS : Hid (IsClimbs s ys) := ⟨hok, by rw [← heq, hcm]⟩
          have hne : ((cmS ys).toList == s.toList) = true := by rw [heq]; simp
          clear hok heq hcm
          go_wp2_with (first | (go_at_call 51; refine (climbsOk_eq Ay ys.length capy ys _ w1.heap.size HAR.out (by omega) HK.out).mono ?_; rintro e w2 ⟨rfl, hb2⟩; have HB2 := Lib.hid hb2; clear hb2) | (go_at_call 52; refine (climbsText_any Ay ys.length capy ys _ w1.heap.size ((HAR.out.below HB2.out).more HB2.out.size) (by omega) HWF.out ((HT.out.bel HB01.out).bel HB2.out)).mono ?_; rintro e w3 ⟨rfl, hb3⟩; have HB3 := Lib.hid hb3; clear hb3))
          go_ret2
          have B3 := HB2.out.trans (HB3.out.mono HB2.out.size)
          exact ⟨HB01.out.trans (B3.mono (by have := HB01.out.size; omega)), .inl ⟨ys, Ay, capy, HIS.out, rfl, (HO7.out.bel B3).wide HB0.out.size B3.size⟩⟩
        · have HNO : Hid (¬ ∃ xs, IsClimbs s xs) := by
            rintro ⟨xs, hx⟩
            have e := HRW.out.whole hx
            rw [e] at hx
            apply heq
            rw [hcm]
            apply ByteArray.ext
            show (cText ys).toArray = s.data
            rw [← hx.2]
          have hne : ((cmS ys).toList == s.toList) = false := text_ne heq
          clear hok heq hcm
          go_wp2_with (first | (go_at_call 51; refine (climbsOk_eq Ay ys.length capy ys _ w1.heap.size HAR.out (by omega) HK.out).mono ?_; rintro e w2 ⟨rfl, hb2⟩; have HB2 := Lib.hid hb2; clear hb2) | (go_at_call 52; refine (climbsText_any Ay ys.length capy ys _ w1.heap.size ((HAR.out.below HB2.out).more HB2.out.size) (by omega) HWF.out ((HT.out.bel HB01.out).bel HB2.out)).mono ?_; rintro e w3 ⟨rfl, hb3⟩; have HB3 := Lib.hid hb3; clear hb3))
          go_ret2
          have B3 := HB2.out.trans (HB3.out.mono HB2.out.size)
          exact RetCl.no (HB01.out.trans (B3.mono (by have := HB01.out.size; omega))) HNO.out
end Go.Proofs.YtkegncanmfmmmaaDoor
