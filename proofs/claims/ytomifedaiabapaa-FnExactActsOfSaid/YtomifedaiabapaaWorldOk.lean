/- Worlds of two cranes: what is valid, and the contracts that say so. -/
import Derived.Test.YtomifedaiabapaaGuard2
import Derived.Test.YtomifedaiabapaaRWld
import Derived.Test.YtomifedaiabapaaNest2
namespace Go.Proofs.Ytomifedaiabapaa
open Go.RowKit
set_option linter.unusedVariables false

def seenB (lost at_ seen age : Int) : Bool := inB at_ 0 23 && (inB seen 0 23 && (inB age 0 lost && decide ((absT seen.toNat at_.toNat : Int) ≤ age)))
def wldOk (v : Watch) (p : Wld) : Bool := wOk v && (seenB v.lost p.a p.sa p.ga && seenB v.lost p.b p.sb p.gb)
def waCode (rs : List (Row Bool)) (v : Watch) (p : Wld) : Int := if tabOk rs then (if wldOk v p then 0 else 1) else 8
theorem inB_nat {d : Int} (h : inB d 0 23 = true) : ∃ n : Nat, d = (n : Int) ∧ n < 24 := by
  have := inB_true.1 h
  exact ⟨d.toNat, by omega, by omega⟩
theorem inB_same {n a b : Int} {v : Bool} (h : inB n a b = v) (w : World) : Calls Try.prog 94 #[.int .i64 n, .int .i64 a, .int .i64 b] w fun e w' => e = .returned (.bool v) ∧ w = w' := by subst h; exact within_any n a b w
theorem inS_same {n a b : Int} {v : Bool} (h : inB n a b = v) (w : World) : Calls Try.prog 97 #[.int .i64 n, .int .i64 a, .int .i64 b] w fun e w' => e = .returned (.bool v) ∧ w = w' := by subst h; exact l00In_any n a b w
theorem isDir_same {d : Int} {v : Bool} (h : inB d 0 23 = v) (w : World) : Calls Try.prog 174 #[.int .i64 d] w fun e w' => e = .returned (.bool v) ∧ w = w' := by subst h; exact isDir_any d w
theorem l02Dir_same {d : Int} {v : Bool} (h : inB d 0 23 = v) (w : World) : Calls Try.prog 220 #[.int .i64 d] w fun e w' => e = .returned (.bool v) ∧ w = w' := by subst h; exact l02Dir_any d w
theorem turn_size (s o : Nat) (hs : s < 24) (ho : o < 24) (w : World) : Calls Try.prog 175 #[.int .i64 (tnI s o)] w fun e w' => e = .returned (.int .i64 (absT s o : Nat)) ∧ w = w' := by
  have h := absG_any (tnI s o) (tnI_range s o).1 (tnI_range s o).2 w
  rw [absT_of] at h
  exact h
set_option maxRecDepth 100000 in
set_option maxHeartbeats 1600000 in
theorem validWorld_any (v : Watch) (p : Wld) (w : World) : Calls Try.prog 122 #[.agg #[.int .i64 v.margin, .int .i64 v.lost], .agg #[.int .i64 p.a, .int .i64 p.b, .int .i64 p.sa, .int .i64 p.sb, .int .i64 p.ga, .int .i64 p.gb]] w fun e w' => e = .returned (.bool (wldOk v p)) ∧ Below w.heap.size w w' := by
  obtain ⟨a, b, sa, sb, ga, gb⟩ := p
  dsimp only
  obtain ⟨W, hW⟩ : ∃ W : World, W = (w.alloc (.cells #[.int .i64 v.margin, .int .i64 v.lost] 32)).alloc (.cells #[.int .i64 a, .int .i64 b, .int .i64 sa, .int .i64 sb, .int .i64 ga, .int .i64 gb] 34) := ⟨_, rfl⟩
  have hbW : Below w.heap.size w W := by rw [hW]; exact ((Below.refl _ _).alloc (Nat.le_refl _) _).alloc (by simp) _
  have hBv : Blk W w.heap.size 32 #[.int .i64 v.margin, .int .i64 v.lost] := by rw [hW]; exact (Blk.new _ _ _).alloc _
  have hBp : Blk W (w.heap.size + 1) 34 #[.int .i64 a, .int .i64 b, .int .i64 sa, .int .i64 sb, .int .i64 ga, .int .i64 gb] := by
    rw [hW]
    have := Blk.new (w.alloc (.cells #[.int .i64 v.margin, .int .i64 v.lost] 32)) 34 #[.int .i64 a, .int .i64 b, .int .i64 sa, .int .i64 sb, .int .i64 ga, .int .i64 gb]
    simpa using this
  have hWV := Lib.hid hW
  cases e0 : wOk v
  · have HO : Hid (wldOk v ⟨a, b, sa, sb, ga, gb⟩ = false) := by show _ = _; unfold wldOk; rw [e0]; rfl
    go_enter Try.func122, Try.ntmps122
    go_wp2_with fail
    rw [← hW]
    clear hW
    refine (watchValid_eq v _ e0).mono ?_
    rintro e w1 ⟨rfl, hb⟩
    go_wp2
    go_ret
    exact ⟨by rw [HO.out]; rfl, hbW.trans (hb.mono hbW.size)⟩
  · go_enter Try.func122, Try.ntmps122
    go_wp2_with fail
    rw [← hW]
    clear hW
    refine (watchValid_eq v _ e0).mono ?_
    rintro e w1 ⟨rfl, hb⟩
    have hB1 := hBv.bel hb
    have hB2 := hBp.bel hb
    have H1 := Lib.hid (hbW.trans (hb.mono hbW.size))
    have x1 : w1.cell? ⟨w.heap.size, 1, none⟩ = some (.int .i64 v.lost) := hB1.cell 1
    have y0 : w1.cell? ⟨w.heap.size + 1, 0, none⟩ = some (.int .i64 a) := hB2.cell 0
    have y1 : w1.cell? ⟨w.heap.size + 1, 1, none⟩ = some (.int .i64 b) := hB2.cell 1
    have y2 : w1.cell? ⟨w.heap.size + 1, 2, none⟩ = some (.int .i64 sa) := hB2.cell 2
    have y3 : w1.cell? ⟨w.heap.size + 1, 3, none⟩ = some (.int .i64 sb) := hB2.cell 3
    have y4 : w1.cell? ⟨w.heap.size + 1, 4, none⟩ = some (.int .i64 ga) := hB2.cell 4
    have y5 : w1.cell? ⟨w.heap.size + 1, 5, none⟩ = some (.int .i64 gb) := hB2.cell 5
    clear hB1 hB2 hBv hBp hbW hb hWV
    have HW : Hid (wldOk v ⟨a, b, sa, sb, ga, gb⟩ = (seenB v.lost a sa ga && seenB v.lost b sb gb)) := by show _ = _; unfold wldOk; rw [e0]; rfl
    cases e1 : inB a 0 23
    · have HO : Hid (wldOk v ⟨a, b, sa, sb, ga, gb⟩ = false) := by show _ = _; rw [HW.out]; unfold seenB; rw [e1]; rfl
      go_wp2_with (go_at_call 174; refine (isDir_any _ _).mono ?_; rintro e w3 ⟨rfl, rfl⟩)
      go_ret
      exact ⟨by rw [HO.out]; rfl, H1.out⟩
    cases e2 : inB b 0 23
    · have HO : Hid (wldOk v ⟨a, b, sa, sb, ga, gb⟩ = false) := by show _ = _; rw [HW.out]; unfold seenB; rw [e2]; simp
      go_wp2_with (go_at_call 174; refine (isDir_any _ _).mono ?_; rintro e w3 ⟨rfl, rfl⟩)
      go_ret
      exact ⟨by rw [HO.out]; rfl, H1.out⟩
    cases e3 : inB sa 0 23
    · have HO : Hid (wldOk v ⟨a, b, sa, sb, ga, gb⟩ = false) := by show _ = _; rw [HW.out]; unfold seenB; rw [e3]; simp
      go_wp2_with (go_at_call 174; refine (isDir_any _ _).mono ?_; rintro e w3 ⟨rfl, rfl⟩)
      go_ret
      exact ⟨by rw [HO.out]; rfl, H1.out⟩
    cases e4 : inB sb 0 23
    · have HO : Hid (wldOk v ⟨a, b, sa, sb, ga, gb⟩ = false) := by show _ = _; rw [HW.out]; unfold seenB; rw [e4]; simp
      go_wp2_with (go_at_call 174; refine (isDir_any _ _).mono ?_; rintro e w3 ⟨rfl, rfl⟩)
      go_ret
      exact ⟨by rw [HO.out]; rfl, H1.out⟩
    cases e5 : inB ga 0 v.lost
    · have HO : Hid (wldOk v ⟨a, b, sa, sb, ga, gb⟩ = false) := by show _ = _; rw [HW.out]; unfold seenB; rw [e5]; simp
      go_wp2_with (first | (go_at_call 174; refine (isDir_any _ _).mono ?_; rintro e w3 ⟨rfl, rfl⟩) | (go_at_call 94; refine (within_any _ _ _ _).mono ?_; rintro e w3 ⟨rfl, rfl⟩))
      go_ret
      exact ⟨by rw [HO.out]; rfl, H1.out⟩
    cases e6 : inB gb 0 v.lost
    · have HO : Hid (wldOk v ⟨a, b, sa, sb, ga, gb⟩ = false) := by show _ = _; rw [HW.out]; unfold seenB; rw [e6]; simp
      go_wp2_with (first | (go_at_call 174; refine (isDir_any _ _).mono ?_; rintro e w3 ⟨rfl, rfl⟩) | (go_at_call 94; refine (within_any _ _ _ _).mono ?_; rintro e w3 ⟨rfl, rfl⟩))
      go_ret
      exact ⟨by rw [HO.out]; rfl, H1.out⟩
    obtain ⟨an, rfl, han⟩ := inB_nat e1
    obtain ⟨bn, rfl, hbn⟩ := inB_nat e2
    obtain ⟨sn, rfl, hsn⟩ := inB_nat e3
    obtain ⟨tn, rfl, htn⟩ := inB_nat e4
    have HV : Hid (wldOk v ⟨an, bn, sn, tn, ga, gb⟩ = (decide ((absT sn an : Int) ≤ ga) && decide ((absT tn bn : Int) ≤ gb))) := by
      show _ = _
      rw [HW.out]; unfold seenB; rw [e1, e2, e3, e4, e5, e6]; simp
    by_cases h5 : (absT sn an : Int) ≤ ga
    · have HO : Hid (wldOk v ⟨an, bn, sn, tn, ga, gb⟩ = decide ((absT tn bn : Int) ≤ gb)) := by show _ = _; rw [HV.out, decide_eq_true h5]; rfl
      go_wp2_with (first | (go_at_call 174; refine (isDir_any _ _).mono ?_; rintro e w3 ⟨rfl, rfl⟩) | (go_at_call 94; refine (within_any _ _ _ _).mono ?_; rintro e w3 ⟨rfl, rfl⟩))
      go_quiet ((first | (go_at_call 176; exact quiet_left (turnBetween_any _ _ (by assumption) (by assumption) _)) | (go_at_call 175; exact quiet_left (turn_size _ _ (by assumption) (by assumption) _))))
      go_wp2
      go_ret
      exact ⟨by rw [HO.out]; rfl, bel_drewN H1.out _⟩
    · have HO : Hid (wldOk v ⟨an, bn, sn, tn, ga, gb⟩ = false) := by show _ = _; rw [HV.out, decide_eq_false h5]; rfl
      go_wp2_with (first | (go_at_call 174; refine (isDir_any _ _).mono ?_; rintro e w3 ⟨rfl, rfl⟩) | (go_at_call 94; refine (within_any _ _ _ _).mono ?_; rintro e w3 ⟨rfl, rfl⟩))
      have h7 : decide ((absT sn an : Int) ≤ ga) = false := decide_eq_false (by omega)
      have h8 : ¬ (absT sn an : Int) ≤ ga := by omega
      go_quiet ((first | (go_at_call 176; exact quiet_left (turnBetween_any sn an hsn han _)) | (go_at_call 175; exact quiet_left (turn_size sn an hsn han _))))
      go_wp2
      go_ret
      exact ⟨by rw [HO.out]; rfl, bel_drewN H1.out _⟩
end Go.Proofs.Ytomifedaiabapaa
