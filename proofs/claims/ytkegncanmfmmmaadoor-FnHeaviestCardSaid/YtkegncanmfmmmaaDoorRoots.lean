/- Made by merge.py of XRoot, XRoots. -/
import Derived.Test.YtkegncanmfmmmaaDoorWords2
import Derived.Test.YtkegncanmfmmmaaDoorQuiet
import Derived.Test.YtkegncanmfmmmaaDoorLow
/- XRoot: The square root, rounded up: rt; the square of a distance: sqD. No program in sight. -/
namespace Go.Proofs.YtkegncanmfmmmaaDoor
open Go.RowKit
set_option linter.unusedVariables false

/-- r is the least number from 0 on whose square is at least n -/
def IsRoot (n r : Int) : Prop := 0 ≤ r ∧ n ≤ r * r ∧ ∀ s : Int, 0 ≤ s → s < r → s * s < n
theorem IsRoot.same {n r s : Int} (h : IsRoot n r) (k : IsRoot n s) : r = s := by
  obtain ⟨h1, h2, h3⟩ := h; obtain ⟨k1, k2, k3⟩ := k
  rcases Int.lt_trichotomy r s with h | h | h
  · have := k3 r h1 h; omega
  · exact h
  · have := h3 s k1 h; omega
def rtF (n : Int) : Nat → Nat → Nat
  | 0, k => k
  | f + 1, k => if n ≤ (k : Int) * (k : Int) then k else rtF n f (k + 1)
def rt (n : Int) : Int := (rtF n n.toNat 0 : Nat)
theorem rtF_root (n : Int) : ∀ f k : Nat, n.toNat ≤ f + k → (∀ s : Int, 0 ≤ s → s < (k : Int) → s * s < n) → IsRoot n (rtF n f k : Nat)
  | 0, k, hk, hs => by
    refine ⟨by omega, ?_, hs⟩
    show n ≤ (k : Int) * (k : Int)
    rcases Nat.eq_zero_or_pos k with h | h
    · subst h; simp; omega
    · have : (k : Int) * 1 ≤ (k : Int) * (k : Int) := Int.mul_le_mul_of_nonneg_left (by omega) (by omega)
      omega
  | f + 1, k, hk, hs => by
    unfold rtF
    by_cases h : n ≤ (k : Int) * (k : Int)
    · rw [if_pos h]; exact ⟨by omega, h, hs⟩
    · rw [if_neg h]
      refine rtF_root n f (k + 1) (by omega) fun s h0 h1 => ?_
      rcases Int.lt_or_le s (k : Int) with h2 | h2
      · exact hs s h0 h2
      · obtain rfl : s = (k : Int) := by omega
        omega
theorem rt_root (n : Int) : IsRoot n (rt n) := rtF_root n n.toNat 0 (by omega) (fun s h0 h1 => absurd h1 (by omega))
theorem rt_of {n r : Int} (h : IsRoot n r) : rt n = r := (rt_root n).same h
theorem rt_low (n : Int) : 0 ≤ rt n := (rt_root n).1
theorem sq_mono {a b : Int} (h0 : 0 ≤ a) (h : a ≤ b) : a * a ≤ b * b := Int.mul_le_mul h h h0 (by omega)
/-- a half search ends at the root -/
theorem isRoot_of_search {n r : Int} (h0 : 0 ≤ r) (h1 : n ≤ r * r) (h2 : r = 0 ∨ (r - 1) * (r - 1) < n) : IsRoot n r :=
  ⟨h0, h1, fun s hs hsr => by
    rcases h2 with h2 | h2
    · omega
    · have := sq_mono hs (show s ≤ r - 1 by omega); omega⟩
theorem rt_high {n m : Int} (hm : 0 ≤ m) (h : n ≤ m * m) : rt n ≤ m := by
  rcases Int.lt_or_le m (rt n) with h2 | h2
  · have := (rt_root n).2.2 m hm h2; omega
  · exact h2
def sqD (ax ay bx by_ : Int) : Int := (ax - bx) * (ax - bx) + (ay - by_) * (ay - by_)
theorem sq_bd {x m : Int} (h1 : -m ≤ x) (h2 : x ≤ m) : 0 ≤ x * x ∧ x * x ≤ m * m := by
  have hm : 0 ≤ m := by omega
  constructor
  · rcases Int.le_total 0 x with h | h
    · exact Int.mul_nonneg h h
    · have := Int.mul_nonneg (a := -x) (b := -x) (by omega) (by omega)
      rwa [Int.neg_mul_neg] at this
  · rcases Int.le_total 0 x with h | h
    · exact sq_mono h h2
    · have : (-x) * (-x) ≤ m * m := sq_mono (by omega) (by omega)
      rwa [Int.neg_mul_neg] at this
end Go.Proofs.YtkegncanmfmmmaaDoor
/- XRoots: rootUp, square of the program; l02Root, l02Square of the reference. -/
namespace Go.Proofs.YtkegncanmfmmmaaDoor
open Go.RowKit
set_option linter.unusedVariables false

theorem mid_facts {l h m : Int} (h0 : 0 ≤ l) (hl : l < h) (hm : h ≤ m) : 0 ≤ (l + h) / 2 * ((l + h) / 2) ∧ (l + h) / 2 * ((l + h) / 2) ≤ m * m ∧ l ≤ (l + h) / 2 ∧ (l + h) / 2 < h := by
  have h1 : l ≤ (l + h) / 2 := by omega
  have h2 : (l + h) / 2 < h := by omega
  exact ⟨Int.mul_nonneg (by omega) (by omega), sq_mono (by omega) (by omega), h1, h2⟩

set_option maxHeartbeats 800000 in
theorem rootUp_any (n : Int) (hn0 : 0 ≤ n) (hn : n ≤ 1000000000000) (w : World) :
    Calls Tryd.prog 79 #[.int .i64 n] w fun e w' => e = .returned (.int .i64 (rt n)) ∧ w = w' := by
  go_enter Tryd.func79, Tryd.ntmps79
  go_wp2
  go_loop [3, 4] (fun a b => ∃ l h : Int, a = .int .i64 l ∧ b = .int .i64 h ∧ 0 ≤ l ∧ l ≤ h ∧ h ≤ 1000000 ∧ n ≤ h * h ∧ (l = 0 ∨ (l - 1) * (l - 1) < n)) (fun a b => (intOf b - intOf a).toNat)
  case atStart => exact ⟨0, 1000000, rfl, rfl, by omega, by omega, by omega, by omega, .inl rfl⟩
  case round =>
    obtain ⟨l, h, rfl, rfl, h0, hlh, hh, hnh, hlo⟩ := hrel
    have HN := Lib.hid hnh
    have HL := Lib.hid hlo
    clear hnh hlo
    by_cases hlt : l < h
    · have hm := mid_facts h0 hlt hh
      obtain ⟨m1, m2, m3, m4⟩ := hm
      by_cases hc : n ≤ (l + h) / 2 * ((l + h) / 2)
      · have HC := Lib.hid hc
        go_wp2
        go_round
        case rel => exact ⟨l, (l + h) / 2, rfl, rfl, h0, m3, by omega, HC.out, HL.out⟩
        case measure => simp [intOf]; omega
      · have HC := Lib.hid (show (l + h) / 2 * ((l + h) / 2) < n by omega)
        go_wp2
        go_round
        case rel => exact ⟨(l + h) / 2 + 1, h, rfl, rfl, by omega, by omega, hh, HN.out, .inr (by rw [Int.add_sub_cancel]; exact HC.out)⟩
        case measure => simp [intOf]; omega
    · obtain rfl : l = h := by omega
      have H : Hid (rt n = l) := rt_of (isRoot_of_search h0 HN.out HL.out)
      go_wp2
      go_ret
      exact ⟨ret_int H.out.symm, rfl⟩

set_option maxHeartbeats 800000 in
theorem l02Root_any (n : Int) (hn0 : 0 ≤ n) (hn : n ≤ 1000000000000) (w : World) :
    Calls Tryd.prog 42 #[.int .i64 n] w fun e w' => e = .returned (.int .i64 (rt n)) ∧ w = w' := by
  go_enter Tryd.func42, Tryd.ntmps42
  go_wp2
  go_loop [3, 4] (fun a b => ∃ l h : Int, a = .int .i64 l ∧ b = .int .i64 h ∧ 0 ≤ l ∧ l ≤ h ∧ h ≤ 2000000 ∧ n ≤ h * h ∧ (l = 0 ∨ (l - 1) * (l - 1) < n)) (fun a b => (intOf b - intOf a).toNat)
  case atStart => exact ⟨0, 2000000, rfl, rfl, by omega, by omega, by omega, by omega, .inl rfl⟩
  case round =>
    obtain ⟨l, h, rfl, rfl, h0, hlh, hh, hnh, hlo⟩ := hrel
    have HN := Lib.hid hnh
    have HL := Lib.hid hlo
    clear hnh hlo
    by_cases hlt : l < h
    · have hm := mid_facts h0 hlt hh
      obtain ⟨m1, m2, m3, m4⟩ := hm
      by_cases hc : n ≤ (l + h) / 2 * ((l + h) / 2)
      · have HC := Lib.hid hc
        go_wp2
        go_round
        case rel => exact ⟨l, (l + h) / 2, rfl, rfl, h0, m3, by omega, HC.out, HL.out⟩
        case measure => simp [intOf]; omega
      · have HC := Lib.hid (show (l + h) / 2 * ((l + h) / 2) < n by omega)
        go_wp2
        go_round
        case rel => exact ⟨(l + h) / 2 + 1, h, rfl, rfl, by omega, by omega, hh, HN.out, .inr (by rw [Int.add_sub_cancel]; exact HC.out)⟩
        case measure => simp [intOf]; omega
    · obtain rfl : l = h := by omega
      have H : Hid (rt n = l) := rt_of (isRoot_of_search h0 HN.out HL.out)
      go_wp2
      go_ret
      exact ⟨ret_int H.out.symm, rfl⟩

/-- a place's numbers -/
def Plc (x y : Int) : Prop := (-10000 ≤ x ∧ x ≤ 10000) ∧ (-10000 ≤ y ∧ y ≤ 10000)
theorem sqD_bd {ax ay bx by_ : Int} (h1 : Plc ax ay) (h2 : Plc bx by_) : 0 ≤ sqD ax ay bx by_ ∧ sqD ax ay bx by_ ≤ 800000000 := by
  obtain ⟨⟨_, _⟩, ⟨_, _⟩⟩ := h1; obtain ⟨⟨_, _⟩, ⟨_, _⟩⟩ := h2
  have k1 := sq_bd (x := ax - bx) (m := 20000) (by omega) (by omega)
  have k2 := sq_bd (x := ay - by_) (m := 20000) (by omega) (by omega)
  unfold sqD; omega
theorem sqD_parts {ax ay bx by_ : Int} (h1 : Plc ax ay) (h2 : Plc bx by_) : (0 ≤ (ax - bx) * (ax - bx) ∧ (ax - bx) * (ax - bx) ≤ 400000000) ∧ (0 ≤ (ay - by_) * (ay - by_) ∧ (ay - by_) * (ay - by_) ≤ 400000000) := by
  obtain ⟨⟨_, _⟩, ⟨_, _⟩⟩ := h1; obtain ⟨⟨_, _⟩, ⟨_, _⟩⟩ := h2
  have k1 := sq_bd (x := ax - bx) (m := 20000) (by omega) (by omega)
  have k2 := sq_bd (x := ay - by_) (m := 20000) (by omega) (by omega)
  omega

set_option maxHeartbeats 800000 in
theorem square_any (ax ay bx by_ : Int) (h1 : Plc ax ay) (h2 : Plc bx by_) (w : World) :
    Calls Tryd.prog 80 #[.agg #[.int .i64 ax, .int .i64 ay], .agg #[.int .i64 bx, .int .i64 by_]] w fun e w' => e = .returned (.int .i64 (sqD ax ay bx by_)) ∧ Below w.heap.size w w' := by
  obtain ⟨⟨p1, p2⟩, ⟨p3, p4⟩⟩ := sqD_parts h1 h2
  obtain ⟨⟨a1, a2⟩, ⟨a3, a4⟩⟩ := h1; obtain ⟨⟨b1, b2⟩, ⟨b3, b4⟩⟩ := h2
  go_enter Tryd.func80, Tryd.ntmps80
  go_wp2
  go_quiet (fail)
  go_wp2
  go_ret
  exact ⟨rfl, bel_drewN (((Below.refl _ _).alloc (Nat.le_refl _) _).alloc (by simp) _) _⟩

set_option maxHeartbeats 800000 in
theorem l02Square_any (ax ay bx by_ : Int) (h1 : Plc ax ay) (h2 : Plc bx by_) (w : World) :
    Calls Tryd.prog 43 #[.agg #[.int .i64 ax, .int .i64 ay], .agg #[.int .i64 bx, .int .i64 by_]] w fun e w' => e = .returned (.int .i64 (sqD ax ay bx by_)) ∧ Below w.heap.size w w' := by
  obtain ⟨⟨p1, p2⟩, ⟨p3, p4⟩⟩ := sqD_parts h1 h2
  obtain ⟨⟨a1, a2⟩, ⟨a3, a4⟩⟩ := h1; obtain ⟨⟨b1, b2⟩, ⟨b3, b4⟩⟩ := h2
  go_enter Tryd.func43, Tryd.ntmps43
  go_wp2
  go_ret
  exact ⟨rfl, ((Below.refl _ _).alloc (Nat.le_refl _) _).alloc (by simp) _⟩
end Go.Proofs.YtkegncanmfmmmaaDoor
