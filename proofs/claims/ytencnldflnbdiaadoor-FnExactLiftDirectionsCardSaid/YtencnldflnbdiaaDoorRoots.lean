/- rootUp, square of the program; l02Root, l02Square of the reference. -/
import Derived.Test.YtencnldflnbdiaaDoorRoot
import Derived.Test.YtencnldflnbdiaaDoorQuiet
import Derived.Test.YtencnldflnbdiaaDoorLow
namespace Go.Proofs.YtencnldflnbdiaaDoor
open Go.RowKit
set_option linter.unusedVariables false

theorem mid_facts {l h m : Int} (h0 : 0 ≤ l) (hl : l < h) (hm : h ≤ m) : 0 ≤ (l + h) / 2 * ((l + h) / 2) ∧ (l + h) / 2 * ((l + h) / 2) ≤ m * m ∧ l ≤ (l + h) / 2 ∧ (l + h) / 2 < h := by
  have h1 : l ≤ (l + h) / 2 := by omega
  have h2 : (l + h) / 2 < h := by omega
  exact ⟨Int.mul_nonneg (by omega) (by omega), sq_mono (by omega) (by omega), h1, h2⟩

set_option maxHeartbeats 800000 in
theorem rootUp_any (n : Int) (hn0 : 0 ≤ n) (hn : n ≤ 1000000000000) (w : World) :
    Calls Tryd.prog 138 #[.int .i64 n] w fun e w' => e = .returned (.int .i64 (rt n)) ∧ w = w' := by
  go_enter Tryd.func138, Tryd.ntmps138
  go_wp2
  go_loop [3, 4] (fun a b => ∃ l h : Int, a = .int .i64 l ∧ b = .int .i64 h ∧ 0 ≤ l ∧ l ≤ h ∧ h ≤ 1000000 ∧ n ≤ h * h ∧ (l = 0 ∨ (l - 1) * (l - 1) < n)) (fun a b => (intOf b - intOf a).toNat)
  case atStart => exact ⟨0, 1000000, rfl, rfl, by omega, by omega, by omega, by omega, .inl rfl⟩
  case round =>
    obtain ⟨l, h, rfl, rfl, h0, hlh, hh, hnh, hlo⟩ := hrel
    have HN := Lib.hid hnh
    have HL := Lib.hid hlo
    clear hnh hlo
    by_cases hlt : l < h
    · have hm := mid_facts h0 hlt hh
      obtain ⟨m1, m2, m3, m4⟩ := hm
      by_cases hc : n ≤ (l + h) / 2 * ((l + h) / 2)
      · have HC := Lib.hid hc
        go_wp2
        go_round
        case rel => exact ⟨l, (l + h) / 2, rfl, rfl, h0, m3, by omega, HC.out, HL.out⟩
        case measure => simp [intOf]; omega
      · have HC := Lib.hid (show (l + h) / 2 * ((l + h) / 2) < n by omega)
        go_wp2
        go_round
        case rel => exact ⟨(l + h) / 2 + 1, h, rfl, rfl, by omega, by omega, hh, HN.out, .inr (by rw [Int.add_sub_cancel]; exact HC.out)⟩
        case measure => simp [intOf]; omega
    · obtain rfl : l = h := by omega
      have H : Hid (rt n = l) := rt_of (isRoot_of_search h0 HN.out HL.out)
      go_wp2
      go_ret
      exact ⟨ret_int H.out.symm, rfl⟩

set_option maxHeartbeats 800000 in
theorem l02Root_any (n : Int) (hn0 : 0 ≤ n) (hn : n ≤ 1000000000000) (w : World) :
    Calls Tryd.prog 83 #[.int .i64 n] w fun e w' => e = .returned (.int .i64 (rt n)) ∧ w = w' := by
  go_enter Tryd.func83, Tryd.ntmps83
  go_wp2
  go_loop [3, 4] (fun a b => ∃ l h : Int, a = .int .i64 l ∧ b = .int .i64 h ∧ 0 ≤ l ∧ l ≤ h ∧ h ≤ 2000000 ∧ n ≤ h * h ∧ (l = 0 ∨ (l - 1) * (l - 1) < n)) (fun a b => (intOf b - intOf a).toNat)
  case atStart => exact ⟨0, 2000000, rfl, rfl, by omega, by omega, by omega, by omega, .inl rfl⟩
  case round =>
    obtain ⟨l, h, rfl, rfl, h0, hlh, hh, hnh, hlo⟩ := hrel
    have HN := Lib.hid hnh
    have HL := Lib.hid hlo
    clear hnh hlo
    by_cases hlt : l < h
    · have hm := mid_facts h0 hlt hh
      obtain ⟨m1, m2, m3, m4⟩ := hm
      by_cases hc : n ≤ (l + h) / 2 * ((l + h) / 2)
      · have HC := Lib.hid hc
        go_wp2
        go_round
        case rel => exact ⟨l, (l + h) / 2, rfl, rfl, h0, m3, by omega, HC.out, HL.out⟩
        case measure => simp [intOf]; omega
      · have HC := Lib.hid (show (l + h) / 2 * ((l + h) / 2) < n by omega)
        go_wp2
        go_round
        case rel => exact ⟨(l + h) / 2 + 1, h, rfl, rfl, by omega, by omega, hh, HN.out, .inr (by rw [Int.add_sub_cancel]; exact HC.out)⟩
        case measure => simp [intOf]; omega
    · obtain rfl : l = h := by omega
      have H : Hid (rt n = l) := rt_of (isRoot_of_search h0 HN.out HL.out)
      go_wp2
      go_ret
      exact ⟨ret_int H.out.symm, rfl⟩

/-- a place's numbers -/
def Plc (x y : Int) : Prop := (-10000 ≤ x ∧ x ≤ 10000) ∧ (-10000 ≤ y ∧ y ≤ 10000)
theorem sqD_bd {ax ay bx by_ : Int} (h1 : Plc ax ay) (h2 : Plc bx by_) : 0 ≤ sqD ax ay bx by_ ∧ sqD ax ay bx by_ ≤ 800000000 := by
  obtain ⟨⟨_, _⟩, ⟨_, _⟩⟩ := h1; obtain ⟨⟨_, _⟩, ⟨_, _⟩⟩ := h2
  have k1 := sq_bd (x := ax - bx) (m := 20000) (by omega) (by omega)
  have k2 := sq_bd (x := ay - by_) (m := 20000) (by omega) (by omega)
  unfold sqD; omega
theorem sqD_parts {ax ay bx by_ : Int} (h1 : Plc ax ay) (h2 : Plc bx by_) : (0 ≤ (ax - bx) * (ax - bx) ∧ (ax - bx) * (ax - bx) ≤ 400000000) ∧ (0 ≤ (ay - by_) * (ay - by_) ∧ (ay - by_) * (ay - by_) ≤ 400000000) := by
  obtain ⟨⟨_, _⟩, ⟨_, _⟩⟩ := h1; obtain ⟨⟨_, _⟩, ⟨_, _⟩⟩ := h2
  have k1 := sq_bd (x := ax - bx) (m := 20000) (by omega) (by omega)
  have k2 := sq_bd (x := ay - by_) (m := 20000) (by omega) (by omega)
  omega

set_option maxHeartbeats 800000 in
theorem square_any (ax ay bx by_ : Int) (h1 : Plc ax ay) (h2 : Plc bx by_) (w : World) :
    Calls Tryd.prog 123 #[.agg #[.int .i64 ax, .int .i64 ay], .agg #[.int .i64 bx, .int .i64 by_]] w fun e w' => e = .returned (.int .i64 (sqD ax ay bx by_)) ∧ Below w.heap.size w w' := by
  obtain ⟨⟨p1, p2⟩, ⟨p3, p4⟩⟩ := sqD_parts h1 h2
  obtain ⟨⟨a1, a2⟩, ⟨a3, a4⟩⟩ := h1; obtain ⟨⟨b1, b2⟩, ⟨b3, b4⟩⟩ := h2
  go_enter Tryd.func123, Tryd.ntmps123
  go_wp2
  go_quiet (fail)
  go_wp2
  go_ret
  exact ⟨rfl, bel_drewN (((Below.refl _ _).alloc (Nat.le_refl _) _).alloc (by simp) _) _⟩

set_option maxHeartbeats 800000 in
theorem l02Square_any (ax ay bx by_ : Int) (h1 : Plc ax ay) (h2 : Plc bx by_) (w : World) :
    Calls Tryd.prog 67 #[.agg #[.int .i64 ax, .int .i64 ay], .agg #[.int .i64 bx, .int .i64 by_]] w fun e w' => e = .returned (.int .i64 (sqD ax ay bx by_)) ∧ Below w.heap.size w w' := by
  obtain ⟨⟨p1, p2⟩, ⟨p3, p4⟩⟩ := sqD_parts h1 h2
  obtain ⟨⟨a1, a2⟩, ⟨a3, a4⟩⟩ := h1; obtain ⟨⟨b1, b2⟩, ⟨b3, b4⟩⟩ := h2
  go_enter Tryd.func67, Tryd.ntmps67
  go_wp2
  go_ret
  exact ⟨rfl, ((Below.refl _ _).alloc (Nat.le_refl _) _).alloc (by simp) _⟩
end Go.Proofs.YtencnldflnbdiaaDoor
