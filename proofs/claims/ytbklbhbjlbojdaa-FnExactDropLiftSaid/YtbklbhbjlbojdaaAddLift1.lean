/- AddLift of the program, where it hands back nothing for what it reads ahead (codes 1, 4, 5). -/
import Derived.Test.YtbklbhbjlbojdaaAddLiftFind
import Derived.Test.YtbklbhbjlbojdaaSpecAddLift
namespace Go.Proofs.Ytbklbhbjlbojdaa
open Go.RowKit
set_option linter.unusedVariables false

def RetLW (xs : List LV) (code : Int) (w : World) (e : Ending) (w' : World) : Prop :=
  ∃ A c ps', e = .returned (.tuple #[.slice A xs.length c, .int .i64 code]) ∧ ps'.map Lift.val = xs ∧ (∀ q ∈ ps', q.r.n ≤ 1048576) ∧ LiftsOwn w' w.heap.size w'.heap.size A xs.length ps' ∧ Below w.heap.size w w'
theorem RetLW.nil {code : Int} {w w' : World} (hb : Below w.heap.size w w') : RetLW [] code w (.returned (.tuple #[.slice none 0 0, .int .i64 code])) w' :=
  ⟨none, 0, [], rfl, rfl, fun p hp => (by cases hp), ⟨w.heap.size, fun _ => w.heap.size, Nat.le_refl _, hb.size, Own.nil _, ⟨Nat.le_refl _, fun i hi => absurd hi (by simp), hb.size, fun i p h => by simp at h⟩⟩, hb⟩
theorem any_named (ps : List Lift) (vs : List LV) (hv : ps.map Lift.val = vs) (s : ByteArray) : (ps.any fun p => nameIs s p.val) = decide (0 ≤ fIdx (nameIs s) vs) := by
  subst hv
  rw [← any_fIdx, List.any_map]; rfl
set_option maxRecDepth 100000 in
set_option maxHeartbeats 3200000 in
theorem addLift_early (A : Option Addr) (n c : Nat) (ps : List Lift) (vs : List LV) (hv : ps.map Lift.val = vs) (l : Lift) (w : World) (lo : Nat) (h : Lifts w lo w.heap.size A n ps) (hn : n ≤ 1048576) (hp : ∀ p ∈ ps, p.wf) (hl : l.wf) (he : alCode vs l.val ≠ 0 ∧ alCode vs l.val ≠ 6) :
    Calls Try.prog 19 #[.slice A n c, .agg #[.string l.v.name, .int .i64 l.v.weight, .int .i64 l.v.fx, .int .i64 l.v.fy, .int .i64 l.v.tx, .int .i64 l.v.ty, .int .i64 l.v.height, .int .i64 l.v.deadline, .slice l.r.a l.r.n l.r.cap]] w (RetLW (alXs vs l.val) (alCode vs l.val) w) := by
  have HV := Lib.hid hv
  have HP := Lib.hid hp
  have HE := Lib.hid he
  have HL : Hid (vs.length = n) := by show _ = _; rw [lv_len hv, h.len]
  have HN := Lib.hid (any_named ps vs hv l.v.name)
  obtain ⟨W, hW⟩ : ∃ W : World, W = w.alloc (.cells #[.string l.v.name, .int .i64 l.v.weight, .int .i64 l.v.fx, .int .i64 l.v.fy, .int .i64 l.v.tx, .int .i64 l.v.ty, .int .i64 l.v.height, .int .i64 l.v.deadline, .slice l.r.a l.r.n l.r.cap] 36) := ⟨_, rfl⟩
  have B0 : Below w.heap.size w W := by rw [hW]; exact (Below.refl _ _).alloc (Nat.le_refl _) _
  have P0 : Blk W w.heap.size 36 #[.string l.v.name, .int .i64 l.v.weight, .int .i64 l.v.fx, .int .i64 l.v.fy, .int .i64 l.v.tx, .int .i64 l.v.ty, .int .i64 l.v.height, .int .i64 l.v.deadline, .slice l.r.a l.r.n l.r.cap] := by rw [hW]; exact Blk.new _ _ _
  have HC := Lib.hid (h.next B0)
  clear h hv hp he
  cases h1 : liftsOk vs
  · have H1 := Lib.hid h1
    have H := Lib.hid (al_1 (v := l.val) h1)
    clear h1
    go_enter Try.func19, Try.ntmps19
    go_wp2_with fail
    rw [← hW]
    clear hW
    refine (validLifts_any _ _ _ ps vs HV.out _ _ HC.out hn HP.out).mono ?_
    rintro e w1 ⟨rfl, hb1⟩
    rw [H1.out]
    go_wp2
    go_ret2
    rw [H.out.1, H.out.2]; exact RetLW.nil (B0.trans (hb1.mono B0.size))
  · have H1 := Lib.hid h1
    by_cases h2 : 0 ≤ fIdx (nameIs l.v.name) vs
    · have H := Lib.hid (al_4 (v := l.val) h1 h2)
      have HA : Hid ((ps.any fun p => nameIs l.v.name p.val) = true) := by show _ = _; rw [HN.out]; exact decide_eq_true h2
      clear h1 h2
      go_enter Try.func19, Try.ntmps19
      go_wp2_with fail
      rw [← hW]
      clear hW
      refine (validLifts_any _ _ _ ps vs HV.out _ _ HC.out hn HP.out).mono ?_
      rintro e w1 ⟨rfl, hb1⟩
      rw [H1.out]
      have B1 := B0.trans (hb1.mono B0.size)
      have HC1 := Lib.hid (HC.out.next hb1)
      have P1 := P0.bel hb1
      clear P0 hb1
      go_wp2_with fail
      refine (containsLiftNamed_any A n c ps _ _ HC1.out (by omega) (fun p => nameIs l.v.name p.val) ⟨w.heap.size, 0, none⟩ (fun p W' _ hb => sameName_any p l.v.name w.heap.size W' ((P1.bel hb).cell 0) (P1.bel hb).lt)).mono ?_
      rintro e w2 ⟨rfl, hb2⟩
      rw [HA.out]
      go_wp2
      go_ret2
      rw [H.out.1, H.out.2]; exact RetLW.nil (B1.trans (hb2.mono B1.size))
    · have HA : Hid ((ps.any fun p => nameIs l.v.name p.val) = false) := by show _ = _; rw [HN.out]; exact decide_eq_false h2
      by_cases h3 : 10 ≤ n
      · have H := Lib.hid (al_5 (v := l.val) h1 h2 (by rw [HL.out]; exact h3))
        clear h1 h2
        have h3' : (10 : Int) ≤ (n : Int) := by omega
        go_enter Try.func19, Try.ntmps19
        go_wp2_with fail
        rw [← hW]
        clear hW
        refine (validLifts_any _ _ _ ps vs HV.out _ _ HC.out hn HP.out).mono ?_
        rintro e w1 ⟨rfl, hb1⟩
        rw [H1.out]
        have B1 := B0.trans (hb1.mono B0.size)
        have HC1 := Lib.hid (HC.out.next hb1)
        have P1 := P0.bel hb1
        clear P0 hb1
        go_wp2_with fail
        refine (containsLiftNamed_any A n c ps _ _ HC1.out (by omega) (fun p => nameIs l.v.name p.val) ⟨w.heap.size, 0, none⟩ (fun p W' _ hb => sameName_any p l.v.name w.heap.size W' ((P1.bel hb).cell 0) (P1.bel hb).lt)).mono ?_
        rintro e w2 ⟨rfl, hb2⟩
        rw [HA.out]
        go_wp2
        go_ret2
        rw [H.out.1, H.out.2]; exact RetLW.nil (B1.trans (hb2.mono B1.size))
      · exfalso
        have h4 : ¬ 10 ≤ vs.length := by rw [HL.out]; exact h3
        cases h5 : liftsOk (vs ++ [l.val])
        · exact HE.out.2 (al_6 (v := l.val) h1 h2 h4 h5).2
        · exact HE.out.1 (al_0 (v := l.val) h1 h2 h4 h5).2
end Go.Proofs.Ytbklbhbjlbojdaa
