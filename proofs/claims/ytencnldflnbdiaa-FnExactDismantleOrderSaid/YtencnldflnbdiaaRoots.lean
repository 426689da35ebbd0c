/- rootUp, square of the program; l02Root, l02Square of the reference. -/
import Derived.Test.YtencnldflnbdiaaRoot
import Derived.Test.YtencnldflnbdiaaQuiet
import Derived.Test.YtencnldflnbdiaaLow
namespace Go.Proofs.Ytencnldflnbdiaa
open Go.RowKit
set_option linter.unusedVariables false

theorem mid_facts {l h m : Int} (h0 : 0 ≤ l) (hl : l < h) (hm : h ≤ m) : 0 ≤ (l + h) / 2 * ((l + h) / 2) ∧ (l + h) / 2 * ((l + h) / 2) ≤ m * m ∧ l ≤ (l + h) / 2 ∧ (l + h) / 2 < h := by
  have h1 : l ≤ (l + h) / 2 := by omega
  have h2 : (l + h) / 2 < h := by omega
  exact ⟨Int.mul_nonneg (by omega) (by omega), sq_mono (by omega) (by omega), h1, h2⟩

/-- a place's numbers -/
def Plc (x y : Int) : Prop := (-10000 ≤ x ∧ x ≤ 10000) ∧ (-10000 ≤ y ∧ y ≤ 10000)
theorem sqD_bd {ax ay bx by_ : Int} (h1 : Plc ax ay) (h2 : Plc bx by_) : 0 ≤ sqD ax ay bx by_ ∧ sqD ax ay bx by_ ≤ 800000000 := by
  obtain ⟨⟨_, _⟩, ⟨_, _⟩⟩ := h1; obtain ⟨⟨_, _⟩, ⟨_, _⟩⟩ := h2
  have k1 := sq_bd (x := ax - bx) (m := 20000) (by omega) (by omega)
  have k2 := sq_bd (x := ay - by_) (m := 20000) (by omega) (by omega)
  unfold sqD; omega
theorem sqD_parts {ax ay bx by_ : Int} (h1 : Plc ax ay) (h2 : Plc bx by_) : (0 ≤ (ax - bx) * (ax - bx) ∧ (ax - bx) * (ax - bx) ≤ 400000000) ∧ (0 ≤ (ay - by_) * (ay - by_) ∧ (ay - by_) * (ay - by_) ≤ 400000000) := by
  obtain ⟨⟨_, _⟩, ⟨_, _⟩⟩ := h1; obtain ⟨⟨_, _⟩, ⟨_, _⟩⟩ := h2
  have k1 := sq_bd (x := ax - bx) (m := 20000) (by omega) (by omega)
  have k2 := sq_bd (x := ay - by_) (m := 20000) (by omega) (by omega)
  omega

set_option maxHeartbeats 800000 in
theorem square_any (ax ay bx by_ : Int) (h1 : Plc ax ay) (h2 : Plc bx by_) (w : World) :
    Calls Try.prog 76 #[.agg #[.int .i64 ax, .int .i64 ay], .agg #[.int .i64 bx, .int .i64 by_]] w fun e w' => e = .returned (.int .i64 (sqD ax ay bx by_)) ∧ Below w.heap.size w w' := by
  obtain ⟨⟨p1, p2⟩, ⟨p3, p4⟩⟩ := sqD_parts h1 h2
  obtain ⟨⟨a1, a2⟩, ⟨a3, a4⟩⟩ := h1; obtain ⟨⟨b1, b2⟩, ⟨b3, b4⟩⟩ := h2
  go_enter Try.func76, Try.ntmps76
  go_wp2
  go_quiet (fail)
  go_wp2
  go_ret
  exact ⟨rfl, bel_drewN (((Below.refl _ _).alloc (Nat.le_refl _) _).alloc (by simp) _) _⟩

set_option maxHeartbeats 800000 in
theorem l02Square_any (ax ay bx by_ : Int) (h1 : Plc ax ay) (h2 : Plc bx by_) (w : World) :
    Calls Try.prog 106 #[.agg #[.int .i64 ax, .int .i64 ay], .agg #[.int .i64 bx, .int .i64 by_]] w fun e w' => e = .returned (.int .i64 (sqD ax ay bx by_)) ∧ Below w.heap.size w w' := by
  obtain ⟨⟨p1, p2⟩, ⟨p3, p4⟩⟩ := sqD_parts h1 h2
  obtain ⟨⟨a1, a2⟩, ⟨a3, a4⟩⟩ := h1; obtain ⟨⟨b1, b2⟩, ⟨b3, b4⟩⟩ := h2
  go_enter Try.func106, Try.ntmps106
  go_wp2
  go_ret
  exact ⟨rfl, ((Below.refl _ _).alloc (Nat.le_refl _) _).alloc (by simp) _⟩
end Go.Proofs.Ytencnldflnbdiaa
