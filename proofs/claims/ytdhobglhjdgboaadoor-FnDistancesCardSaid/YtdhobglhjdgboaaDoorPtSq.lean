/- PointSquare of the reference: a fraction in lowest terms. -/
import Derived.Test.YtdhobglhjdgboaaDoorSrc2
import Derived.Test.YtdhobglhjdgboaaDoorCompare
namespace Go.Proofs.YtdhobglhjdgboaaDoor
open Go.RowKit
set_option linter.unusedVariables false

structure Pt where
  x : Int
  y : Int
structure Pt.ok (p : Pt) : Prop where
  x : -600 ≤ p.x ∧ p.x ≤ 600
  y : -600 ≤ p.y ∧ p.y ≤ 600
def sqD (ax ay bx by_ : Int) : Int := (ax - bx) * (ax - bx) + (ay - by_) * (ay - by_)
def dotS (s : Seg) (p : Pt) : Int := (s.bx - s.ax) * (p.x - s.ax) + (s.by_ - s.ay) * (p.y - s.ay)
def crossS (s : Seg) (p : Pt) : Int := (s.bx - s.ax) * (p.y - s.ay) - (s.by_ - s.ay) * (p.x - s.ax)
theorem mul_bd {a b : Int} {M N : Int} (ha : -M ≤ a ∧ a ≤ M) (hb : -N ≤ b ∧ b ≤ N) (hM : 0 ≤ M) (hN : 0 ≤ N) : -(M * N) ≤ a * b ∧ a * b ≤ M * N := by
  have h1 : a * b ≤ M * N ∧ -(M * N) ≤ a * b := by
    rcases Int.le_total 0 a with h | h <;> rcases Int.le_total 0 b with k | k
    · have := Int.mul_le_mul ha.2 hb.2 k hM
      have := Int.mul_nonneg h k
      have := Int.mul_nonneg hM hN
      omega
    · have h2 : a * (-b) ≤ M * N := Int.mul_le_mul ha.2 (by omega) (by omega) hM
      have h3 : 0 ≤ a * (-b) := Int.mul_nonneg h (by omega)
      rw [Int.mul_neg] at h2 h3
      have := Int.mul_nonneg hM hN
      omega
    · have h2 : (-a) * b ≤ M * N := Int.mul_le_mul (by omega) hb.2 k hM
      have h3 : 0 ≤ (-a) * b := Int.mul_nonneg (by omega) k
      rw [Int.neg_mul] at h2 h3
      have := Int.mul_nonneg hM hN
      omega
    · have h2 : (-a) * (-b) ≤ M * N := Int.mul_le_mul (by omega) (by omega) (by omega) hM
      have h3 : 0 ≤ (-a) * (-b) := Int.mul_nonneg (by omega) (by omega)
      rw [Int.neg_mul_neg] at h2 h3
      have := Int.mul_nonneg hM hN
      omega
  exact ⟨h1.2, h1.1⟩
theorem sq_bd {a : Int} {M : Int} (ha : -M ≤ a ∧ a ≤ M) (hM : 0 ≤ M) : 0 ≤ a * a ∧ a * a ≤ M * M := by
  have h := mul_bd ha ha hM hM
  refine ⟨?_, h.2⟩
  rcases Int.le_total 0 a with h1 | h1
  · exact Int.mul_nonneg h1 h1
  · have := Int.mul_nonneg (show 0 ≤ -a by omega) (show 0 ≤ -a by omega)
    rwa [Int.neg_mul_neg] at this
theorem sqD_bd {ax ay bx by_ : Int} (h1 : -600 ≤ ax ∧ ax ≤ 600) (h2 : -600 ≤ ay ∧ ay ≤ 600) (h3 : -600 ≤ bx ∧ bx ≤ 600) (h4 : -600 ≤ by_ ∧ by_ ≤ 600) : 0 ≤ sqD ax ay bx by_ ∧ sqD ax ay bx by_ ≤ 2880000 := by
  have a := sq_bd (a := ax - bx) (M := 1200) (by omega) (by omega)
  have b := sq_bd (a := ay - by_) (M := 1200) (by omega) (by omega)
  unfold sqD; omega
theorem dot_bd {s : Seg} {p : Pt} (hs : s.ok) (hp : p.ok) : -2880000 ≤ dotS s p ∧ dotS s p ≤ 2880000 := by
  obtain ⟨a1, a2, a3, a4⟩ := hs
  obtain ⟨b1, b2⟩ := hp
  have a := mul_bd (a := s.bx - s.ax) (b := p.x - s.ax) (M := 1200) (N := 1200) (by omega) (by omega) (by omega) (by omega)
  have b := mul_bd (a := s.by_ - s.ay) (b := p.y - s.ay) (M := 1200) (N := 1200) (by omega) (by omega) (by omega) (by omega)
  unfold dotS; omega
theorem cross_bd {s : Seg} {p : Pt} (hs : s.ok) (hp : p.ok) : -2880000 ≤ crossS s p ∧ crossS s p ≤ 2880000 := by
  obtain ⟨a1, a2, a3, a4⟩ := hs
  obtain ⟨b1, b2⟩ := hp
  have a := mul_bd (a := s.bx - s.ax) (b := p.y - s.ay) (M := 1200) (N := 1200) (by omega) (by omega) (by omega) (by omega)
  have b := mul_bd (a := s.by_ - s.ay) (b := p.x - s.ax) (M := 1200) (N := 1200) (by omega) (by omega) (by omega) (by omega)
  unfold crossS; omega

theorem wrapI {n : Int} (h : -9223372036854775808 ≤ n ∧ n ≤ 9223372036854775807) : IntKind.i64.wrap n = n := by rw [IntKind.wrap_i64]; omega
set_option maxHeartbeats 1600000 in
theorem l02Square_any (ax ay bx by_ : Int) (w : World) (h1 : -600 ≤ ax ∧ ax ≤ 600) (h2 : -600 ≤ ay ∧ ay ≤ 600) (h3 : -600 ≤ bx ∧ bx ≤ 600) (h4 : -600 ≤ by_ ∧ by_ ≤ 600) :
    Calls Tryd.prog 104 #[.agg #[.int .i64 ax, .int .i64 ay], .agg #[.int .i64 bx, .int .i64 by_]] w fun e w' => e = .returned (.int .i64 (sqD ax ay bx by_)) ∧ Below w.heap.size w w' := by
  have a := sq_bd (a := ax - bx) (M := 1200) (by omega) (by omega)
  have b := sq_bd (a := ay - by_) (M := 1200) (by omega) (by omega)
  have k1 : IntKind.i64.wrap (ax - bx) = ax - bx := wrapI (by omega)
  have k2 : IntKind.i64.wrap (ay - by_) = ay - by_ := wrapI (by omega)
  have k3 : IntKind.i64.wrap ((ax - bx) * (ax - bx)) = (ax - bx) * (ax - bx) := wrapI (by omega)
  have k4 : IntKind.i64.wrap ((ay - by_) * (ay - by_)) = (ay - by_) * (ay - by_) := wrapI (by omega)
  have k5 : IntKind.i64.wrap ((ax - bx) * (ax - bx) + (ay - by_) * (ay - by_)) = (ax - bx) * (ax - bx) + (ay - by_) * (ay - by_) := wrapI (by omega)
  go_enter Tryd.func104, Tryd.ntmps104
  go_wp2
  go_ret
  exact ⟨rfl, ((Below.refl _ _).alloc (Nat.le_refl _) _).alloc (by simp) _⟩
theorem makeOk {a b : Nat} (ha : a ≤ 1000000000000000000) (hb0 : 0 < b) (hb : b ≤ 1000000000) : fracOk ⟨((a / Nat.gcd a b : Nat) : Int), ((b / Nat.gcd a b : Nat) : Int)⟩ = true := by
  have hg0 : 0 < Nat.gcd a b := Nat.gcd_pos_of_pos_right _ hb0
  have h1 : a / Nat.gcd a b ≤ a := Nat.div_le_self _ _
  have h2 : b / Nat.gcd a b ≤ b := Nat.div_le_self _ _
  have h3 : 0 < b / Nat.gcd a b := Nat.div_pos (Nat.le_of_dvd hb0 (Nat.gcd_dvd_right _ _)) hg0
  have h4 : Nat.gcd (a / Nat.gcd a b) (b / Nat.gcd a b) = 1 := by rw [Nat.gcd_div (Nat.gcd_dvd_left _ _) (Nat.gcd_dvd_right _ _), Nat.div_self hg0]
  generalize a / Nat.gcd a b = P at h1 h4 ⊢
  generalize b / Nat.gcd a b = Q at h2 h3 h4 ⊢
  unfold fracOk
  dsimp only
  rw [inB_true.2 (by omega), inB_true.2 (by omega), Int.toNat_natCast, Int.toNat_natCast, Bool.true_and, Bool.true_and]
  exact decide_eq_true h4
def RetF (w : World) (e : Ending) (w' : World) : Prop := ∃ f : Fraction, e = .returned (.agg #[.int .i64 f.num, .int .i64 f.den]) ∧ fracOk f = true ∧ Below w.heap.size w w'
def RetFC (w : World) (e : Ending) (w' : World) : Prop := ∃ f : Fraction, e = .returned (.tuple #[.agg #[.int .i64 f.num, .int .i64 f.den], .int .i64 0]) ∧ fracOk f = true ∧ Below w.heap.size w w'
end Go.Proofs.YtdhobglhjdgboaaDoor
