/- The greatest common divisor: l14Gcd of the reference, reduced of the program. -/
import Derived.Test.YtdhobglhjdgboaaDoorRFraction
import Derived.Test.YtdhobglhjdgboaaDoorLow
import Derived.Lib.QuietBelow
import Derived.BigQuiet
namespace Go.Proofs.YtdhobglhjdgboaaDoor
open Go.RowKit Go.Sort
set_option linter.unusedVariables false

theorem tmod_nat (x y : Nat) : Int.tmod (x : Int) (y : Int) = ((x % y : Nat) : Int) := rfl
theorem abs_any (n : Int) (h0 : 0 ≤ n) (h1 : n ≤ 9223372036854775807) (w : World) : Calls Tryd.prog 244 #[.int .i64 n] w fun e w' => e = .returned (.int .i64 n) ∧ w = w' := by
  go_enter Tryd.func244, Tryd.ntmps244
  go_wp2
  go_ret
  exact ⟨rfl, rfl⟩

set_option maxHeartbeats 400000 in
theorem reduced_any (a b : Nat) (ha : a ≤ 9223372036854775807) (hb : b ≤ 9223372036854775807) (hb0 : 0 < b) (w : World) :
    Calls Tryd.prog 192 #[.int .i64 a, .int .i64 b] w fun e w' => e = .returned (.agg #[.int .i64 (a / Nat.gcd a b : Nat), .int .i64 (b / Nat.gcd a b : Nat)]) ∧ Below w.heap.size w w' := by
  have hg0 : 0 < Nat.gcd a b := Nat.gcd_pos_of_pos_right _ hb0
  go_enter Tryd.func192, Tryd.ntmps192
  go_wp2_with (go_at_call 244; refine (abs_any _ (by omega) (by omega) _).mono ?_; rintro e w1 ⟨rfl, rfl⟩)
  obtain ⟨W, hW⟩ : ∃ W : World, W = w.alloc (.cells #[.int .i64 0, .int .i64 0] 76) := ⟨_, rfl⟩
  have hbW : Below w.heap.size w W := by rw [hW]; exact (Below.refl _ _).alloc (Nat.le_refl _) _
  have hA : Blk W w.heap.size 76 #[.int .i64 0, .int .i64 0] := by rw [hW]; exact Blk.new _ _ _
  have HA := Lib.hid hA
  clear hA
  rw [← hW]
  clear hW
  go_loopw [5, 6] (fun p q wr => ∃ x y : Nat, p = .int .i64 x ∧ q = .int .i64 y ∧ Nat.gcd x y = Nat.gcd a b ∧ x ≤ 9223372036854775807 ∧ y ≤ 9223372036854775807 ∧ ∃ m, wr = W.drewN m) (fun _ q _ => (intOf q).toNat)
  case atStart => exact ⟨a, b, rfl, rfl, rfl, ha, hb, 0, rfl⟩
  case round =>
    obtain ⟨x, y, rfl, rfl, hg, hx, hy, m, rfl⟩ := hrel
    by_cases h0 : y = 0
    · subst h0
      have HG : Hid (x = Nat.gcd a b) := by show _ = _; rw [← hg, Nat.gcd_zero_right]
      have hx0 : ¬ (x : Int) = 0 := by have := HG.out; omega
      have c0 := HA.out.cell 0
      have c1 := HA.out.cell 1
      simp at c0 c1
      have f0 := HA.out.frozen 0
      have f1 := HA.out.frozen 1
      clear hg
      have hd1 : (a : Int) / (x : Int) = ((a / x : Nat) : Int) := rfl
      have hd2 : (b : Int) / (x : Int) = ((b / x : Nat) : Int) := rfl
      have hl1 : a / x ≤ a := Nat.div_le_self _ _
      have hl2 : b / x ≤ b := Nat.div_le_self _ _
      obtain ⟨P, hP⟩ : ∃ P : Nat, a / x = P := ⟨_, rfl⟩
      obtain ⟨Q, hQ⟩ : ∃ P : Nat, b / x = P := ⟨_, rfl⟩
      rw [hP] at hd1 hl1
      rw [hQ] at hd2 hl2
      have HP : Hid (a / Nat.gcd a b = P) := by show _ = _; rw [← HG.out]; exact hP
      have HQ : Hid (b / Nat.gcd a b = Q) := by show _ = _; rw [← HG.out]; exact hQ
      clear hP hQ
      go_wp2
      go_region
      all_goals go_wp2
      all_goals exact bodyPost_ret (v := .agg #[.int .i64 P, .int .i64 Q]) (by simp [results, Tryd.results192, go_sem, c0, c1]) rfl ⟨by rw [HP.out, HQ.out], by repeat (first | exact bel_drewN hbW _ | (refine Below.setCell ?_ (by first | (simp; done) | (simp; omega)) _) | refine Below.drew ?_)⟩
    · have hlt : x % y < y := Nat.mod_lt _ (by omega)
      have HG : Hid (Nat.gcd y (x % y) = Nat.gcd a b) := by show _ = _; rw [Nat.gcd_comm, ← Nat.gcd_rec, Nat.gcd_comm]; exact hg
      have hy0 : ¬ (y : Int) = 0 := by omega
      have hy1 : (0 : Int) < (y : Int) := by omega
      clear hg
      go_wp2
      go_quiet (fail)
      go_wp2
      go_roundw
      case rel => exact ⟨y, x % y, rfl, rfl, HG.out, hy, by omega, by first | exact ⟨_, rfl⟩ | exact ⟨_, World.drewN_drewN _ _ _⟩⟩
      case measure => simp [intOf]; omega
end Go.Proofs.YtdhobglhjdgboaaDoor
