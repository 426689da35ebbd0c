/- cloneLifts of the program: a copy with rows of its own. -/
import Derived.Test.YtbklbhbjlbojdaaClones
namespace Go.Proofs.Ytbklbhbjlbojdaa
open Go.RowKit
set_option linter.unusedVariables false

def ClonedLifts (n : Nat) (ps : List Lift) (w : World) (e : Ending) (w' : World) : Prop :=
  ∃ A c ps', e = .returned (.slice A n c) ∧ ps'.map Lift.val = ps.map Lift.val ∧ (∀ p ∈ ps', p.r.n ≤ 1048576) ∧ LiftsOwn w' w.heap.size w'.heap.size A n ps' ∧ Below w.heap.size w w'
/-- the cells of the records from number k on -/
def Rest (cs : Array Value) (ps : List Lift) (k : Nat) : Prop := ∀ (i : Nat) (p : Lift), k ≤ i → ps[i]? = some p → ∀ j, j < 9 → cs[i * 9 + j]? = p.cs[j]?
set_option maxRecDepth 100000 in
set_option maxHeartbeats 1600000 in
theorem cloneLifts_any (A : Option Addr) (n c : Nat) (ps : List Lift) (w : World) (lo : Nat) (h : Lifts w lo w.heap.size A n ps) (hn : n ≤ 1048576) (hp : ∀ p ∈ ps, p.r.n ≤ 1048576) :
    Calls Try.prog 88 #[.slice A n c] w (ClonedLifts n ps w) := by
  have HP := Lib.hid hp
  have HL := Lib.hid h.len
  have HH := Lib.hid h
  have h1 := h.1
  clear hp h
  go_enter Try.func88, Try.ntmps88
  go_wp2_with fail
  refine (cloneLift_any A n c ps w lo h1 hn).mono ?_
  rintro e w1 ⟨v, rfl, hgr, hb1⟩
  have hs1 := hb1.size
  rcases Nat.eq_zero_or_pos n with h0 | h0
  · have hps : ps = [] := List.eq_nil_of_length_eq_zero (by rw [HL.out]; exact h0)
    obtain ⟨A', cap, rfl, ho⟩ := hgr.own Lift.cs_len
    rw [HL.out] at ho ⊢
    subst h0
    go_wp2
    go_loopw [9] (fun i wr => i = .int .i64 (0 : Nat) ∧ w1 = wr) (fun i _ => 0)
    case atStart => exact ⟨rfl, rfl⟩
    case round =>
      obtain ⟨rfl, rfl⟩ := hrel
      go_wp2
      go_ret
      subst hps
      exact ⟨A', cap, [], rfl, rfl, fun p hp => (by cases hp), ⟨w.heap.size, fun _ => w.heap.size, Nat.le_refl _, hs1, Own.nil _, ⟨Nat.le_refl _, fun i hi => absurd hi (by simp), hs1, fun i p h => by simp at h⟩⟩, hb1⟩
  · obtain ⟨g, cap, cs0, hv, hg1, hg2, hgb, hcap, _, hsz, hfl⟩ := hgr.parts (by rw [HL.out]; exact h0)
    rw [HL.out] at hv hfl hcap
    subst hv
    have hR : Hid (Rest cs0 ps 0) := by
      intro i p _ hx j hj
      have hi : i < n := by rw [← HL.out]; exact (List.getElem?_eq_some_iff.1 hx).1
      have h9 := flat_at Lift.cs_len ps i p hx j hj
      rw [← hfl, List.getElem?_take_of_lt (by omega), Array.getElem?_toList] at h9
      exact h9
    clear hgr hfl
    go_wp2
    go_loopw [9] (fun i wr => ∃ (k : Nat) (cs : Array Value) (out : List Lift), k ≤ n ∧ i = .int .i64 k ∧ Blk wr g 36 cs ∧ cs.size = cap * 9 ∧ Laid Lift.val Lift.cs 9 ic 1 2 Lift.r wr w1.heap.size cs ps k out ∧ Rest cs ps k ∧ (∀ p ∈ out, p.r.n ≤ 1048576) ∧ w1.heap.size ≤ wr.heap.size ∧ Below w.heap.size w wr) (fun i _ => n - (intOf i).toNat)
    case atStart => exact ⟨0, cs0, [], Nat.zero_le _, rfl, hgb, hsz, Laid.start _ _ _ _ (Nat.le_refl _), hR.out, fun p hp => (by cases hp), Nat.le_refl _, hb1⟩
    case round =>
      obtain ⟨k, cs, out, hk, rfl, hblk, hsz2, hlaid, hrest, hout, hsw, hbw⟩ := hrel
      by_cases hlt : k < n
      · obtain ⟨p, hx⟩ : ∃ p, ps[k]? = some p := ⟨_, List.getElem?_eq_getElem (by rw [HL.out]; exact hlt)⟩
        have hmem := List.mem_of_getElem? hx
        have hrn := HP.out p hmem
        have hrow := ((HH.out.2 p hmem).below hbw).more (hi' := wr.heap.size) hbw.size
        have hg := hblk.lt
        have e8 : wr.cell? ⟨g, k * 9 + 8, none⟩ = some (.slice p.r.a p.r.n p.r.cap) := by rw [hblk.cell]; exact hrest k p (Nat.le_refl _) hx 8 (by omega)
        have f8 := hblk.frozen (k * 9 + 8)
        have hk0 : (0 : Int) ≤ (k : Int) := by omega
        have hk1 : (k : Int) < (n : Int) := by omega
        have hsz9 := hbw.size
        have HX := Lib.hid hx
        have HB := Lib.hid hblk
        have HLD := Lib.hid hlaid
        have HRS := Lib.hid hrest
        have HO := Lib.hid hout
        have HW := Lib.hid hbw
        have HZ := Lib.hid hsz2
        clear hx hmem hblk hlaid hrest hout hbw hsz2 hR hgb hsz
        go_wp2_with (go_at_call 170; refine (cloneInt_any _ _ _ p.r.xs wr lo hrow hrn).mono ?_; rintro e w2 ⟨A', c', rfl, ho, hb2⟩; have e81 := (hb2.cell (p := ⟨g, k * 9 + 8, none⟩) hg).trans e8; have f81 := (hb2.frozen (p := ⟨g, k * 9 + 8, none⟩) hg).trans f8)
        have hs2 := hb2.size
        have HLX : Hid (Laid Lift.val Lift.cs 9 ic 1 2 Lift.r (w2.setCell ⟨g, k * 9 + 8, none⟩ (.slice A' p.r.n c')) w1.heap.size (cs.setIfInBounds (k * 9 + 8) (.slice A' p.r.n c')) ps (k + 1) (out ++ [⟨p.v, ⟨A', p.r.n, c', p.r.xs⟩⟩])) := by
          have hlen := HLD.out.len
          refine (HLD.out.step (cs' := cs.setIfInBounds (k * 9 + 8) (.slice A' p.r.n c')) (p' := ⟨p.v, ⟨A', p.r.n, c', p.r.xs⟩⟩) HX.out rfl (fun hf => hf.step (x := ⟨p.v, ⟨A', p.r.n, c', p.r.xs⟩⟩) (by rw [List.getElem?_append_right (by omega), hlen]; simp) (fun i hi => Array.getElem?_setIfInBounds_ne (by omega)) (fun j hj => ?_)) hb2 ho).within (((Within.refl g (g + 1) w2).setCell (p := ⟨g, k * 9 + 8, none⟩) (Nat.le_refl _) (Nat.lt_succ_self _) _)) (by omega)
          by_cases hj8 : j = 8
          · subst hj8
            rw [Array.getElem?_setIfInBounds_self_of_lt (by have := HZ.out; have : k * 9 + 8 < n * 9 := by omega
                                                            have : n * 9 ≤ cap * 9 := Nat.mul_le_mul_right 9 hcap
                                                            omega)]
            rfl
          · rw [Array.getElem?_setIfInBounds_ne (by omega), HRS.out k p (Nat.le_refl _) HX.out j hj]
            match j, hj, hj8 with
            | 0, _, _ => rfl
            | 1, _, _ => rfl
            | 2, _, _ => rfl
            | 3, _, _ => rfl
            | 4, _, _ => rfl
            | 5, _, _ => rfl
            | 6, _, _ => rfl
            | 7, _, _ => rfl
            | 8, _, h => exact absurd rfl h
        have HR2 : Hid (Rest (cs.setIfInBounds (k * 9 + 8) (.slice A' p.r.n c')) ps (k + 1)) := by
          intro i q hi hq j hj
          rw [Array.getElem?_setIfInBounds_ne (by omega)]
          exact HRS.out i q (by omega) hq j hj
        have HO2 : Hid (∀ q ∈ out ++ [(⟨p.v, ⟨A', p.r.n, c', p.r.xs⟩⟩ : Lift)], q.r.n ≤ 1048576) := by
          intro q hq
          rcases List.mem_append.1 hq with hq | hq
          · exact HO.out q hq
          · rw [List.mem_singleton] at hq; subst hq; exact hrn
        have HB2 := Lib.hid ((HB.out.below hb2 hg).set_ (k * 9 + 8) (.slice A' p.r.n c'))
        have HW2 := Lib.hid ((HW.out.trans (hb2.mono hsz9)).setCell (p := ⟨g, k * 9 + 8, none⟩) hg1 (.slice A' p.r.n c'))
        clear ho hb2 e8 f8 e81 f81 hrow
        go_roundw
        case rel => exact ⟨k + 1, _, _, by omega, by go_num, HB2.out, by simpa using HZ.out, HLX.out, HR2.out, HO2.out, by simp; omega, HW2.out⟩
        case measure => simp [intOf]; omega
      · obtain rfl : k = n := by omega
        go_wp2
        go_ret
        obtain ⟨f, ht⟩ := hlaid.tiles
        refine ⟨_, _, out, rfl, by rw [hlaid.val_, List.take_of_length_le (by rw [List.length_map, HL.out]; exact Nat.le_refl _)], hout, ⟨w1.heap.size, f, hs1, hsw, ⟨hlaid.len, fun _ => ⟨g, cs, rfl, hg1, hg2, hblk, by rw [hsz2]; exact Nat.mul_le_mul_right 9 hcap, fun i x hx jj hj => hlaid.fill i x (by rw [← hlaid.len]; exact (List.getElem?_eq_some_iff.1 hx).1) hx jj hj⟩⟩, ht⟩, hbw⟩
end Go.Proofs.Ytbklbhbjlbojdaa
