/- PointSquare of the reference: a fraction in lowest terms. -/
import Derived.Test.YtbklbhbjlbojdaaSrc2
import Derived.Test.YtbklbhbjlbojdaaCompare
namespace Go.Proofs.Ytbklbhbjlbojdaa
open Go.RowKit
set_option linter.unusedVariables false

structure Pt where
  x : Int
  y : Int
structure Pt.ok (p : Pt) : Prop where
  x : -600 ≤ p.x ∧ p.x ≤ 600
  y : -600 ≤ p.y ∧ p.y ≤ 600
def sqD (ax ay bx by_ : Int) : Int := (ax - bx) * (ax - bx) + (ay - by_) * (ay - by_)
def dotS (s : Seg) (p : Pt) : Int := (s.bx - s.ax) * (p.x - s.ax) + (s.by_ - s.ay) * (p.y - s.ay)
def crossS (s : Seg) (p : Pt) : Int := (s.bx - s.ax) * (p.y - s.ay) - (s.by_ - s.ay) * (p.x - s.ax)
theorem mul_bd {a b : Int} {M N : Int} (ha : -M ≤ a ∧ a ≤ M) (hb : -N ≤ b ∧ b ≤ N) (hM : 0 ≤ M) (hN : 0 ≤ N) : -(M * N) ≤ a * b ∧ a * b ≤ M * N := by
  have h1 : a * b ≤ M * N ∧ -(M * N) ≤ a * b := by
    rcases Int.le_total 0 a with h | h <;> rcases Int.le_total 0 b with k | k
    · have := Int.mul_le_mul ha.2 hb.2 k hM
      have := Int.mul_nonneg h k
      have := Int.mul_nonneg hM hN
      omega
    · have h2 : a * (-b) ≤ M * N := Int.mul_le_mul ha.2 (by omega) (by omega) hM
      have h3 : 0 ≤ a * (-b) := Int.mul_nonneg h (by omega)
      rw [Int.mul_neg] at h2 h3
      have := Int.mul_nonneg hM hN
      omega
    · have h2 : (-a) * b ≤ M * N := Int.mul_le_mul (by omega) hb.2 k hM
      have h3 : 0 ≤ (-a) * b := Int.mul_nonneg (by omega) k
      rw [Int.neg_mul] at h2 h3
      have := Int.mul_nonneg hM hN
      omega
    · have h2 : (-a) * (-b) ≤ M * N := Int.mul_le_mul (by omega) (by omega) (by omega) hM
      have h3 : 0 ≤ (-a) * (-b) := Int.mul_nonneg (by omega) (by omega)
      rw [Int.neg_mul_neg] at h2 h3
      have := Int.mul_nonneg hM hN
      omega
  exact ⟨h1.2, h1.1⟩
theorem sq_bd {a : Int} {M : Int} (ha : -M ≤ a ∧ a ≤ M) (hM : 0 ≤ M) : 0 ≤ a * a ∧ a * a ≤ M * M := by
  have h := mul_bd ha ha hM hM
  refine ⟨?_, h.2⟩
  rcases Int.le_total 0 a with h1 | h1
  · exact Int.mul_nonneg h1 h1
  · have := Int.mul_nonneg (show 0 ≤ -a by omega) (show 0 ≤ -a by omega)
    rwa [Int.neg_mul_neg] at this
theorem sqD_bd {ax ay bx by_ : Int} (h1 : -600 ≤ ax ∧ ax ≤ 600) (h2 : -600 ≤ ay ∧ ay ≤ 600) (h3 : -600 ≤ bx ∧ bx ≤ 600) (h4 : -600 ≤ by_ ∧ by_ ≤ 600) : 0 ≤ sqD ax ay bx by_ ∧ sqD ax ay bx by_ ≤ 2880000 := by
  have a := sq_bd (a := ax - bx) (M := 1200) (by omega) (by omega)
  have b := sq_bd (a := ay - by_) (M := 1200) (by omega) (by omega)
  unfold sqD; omega
theorem dot_bd {s : Seg} {p : Pt} (hs : s.ok) (hp : p.ok) : -2880000 ≤ dotS s p ∧ dotS s p ≤ 2880000 := by
  obtain ⟨a1, a2, a3, a4⟩ := hs
  obtain ⟨b1, b2⟩ := hp
  have a := mul_bd (a := s.bx - s.ax) (b := p.x - s.ax) (M := 1200) (N := 1200) (by omega) (by omega) (by omega) (by omega)
  have b := mul_bd (a := s.by_ - s.ay) (b := p.y - s.ay) (M := 1200) (N := 1200) (by omega) (by omega) (by omega) (by omega)
  unfold dotS; omega
theorem cross_bd {s : Seg} {p : Pt} (hs : s.ok) (hp : p.ok) : -2880000 ≤ crossS s p ∧ crossS s p ≤ 2880000 := by
  obtain ⟨a1, a2, a3, a4⟩ := hs
  obtain ⟨b1, b2⟩ := hp
  have a := mul_bd (a := s.bx - s.ax) (b := p.y - s.ay) (M := 1200) (N := 1200) (by omega) (by omega) (by omega) (by omega)
  have b := mul_bd (a := s.by_ - s.ay) (b := p.x - s.ax) (M := 1200) (N := 1200) (by omega) (by omega) (by omega) (by omega)
  unfold crossS; omega

theorem wrapI {n : Int} (h : -9223372036854775808 ≤ n ∧ n ≤ 9223372036854775807) : IntKind.i64.wrap n = n := by rw [IntKind.wrap_i64]; omega
set_option maxHeartbeats 1600000 in
theorem l02Square_any (ax ay bx by_ : Int) (w : World) (h1 : -600 ≤ ax ∧ ax ≤ 600) (h2 : -600 ≤ ay ∧ ay ≤ 600) (h3 : -600 ≤ bx ∧ bx ≤ 600) (h4 : -600 ≤ by_ ∧ by_ ≤ 600) :
    Calls Try.prog 196 #[.agg #[.int .i64 ax, .int .i64 ay], .agg #[.int .i64 bx, .int .i64 by_]] w fun e w' => e = .returned (.int .i64 (sqD ax ay bx by_)) ∧ Below w.heap.size w w' := by
  have a := sq_bd (a := ax - bx) (M := 1200) (by omega) (by omega)
  have b := sq_bd (a := ay - by_) (M := 1200) (by omega) (by omega)
  have k1 : IntKind.i64.wrap (ax - bx) = ax - bx := wrapI (by omega)
  have k2 : IntKind.i64.wrap (ay - by_) = ay - by_ := wrapI (by omega)
  have k3 : IntKind.i64.wrap ((ax - bx) * (ax - bx)) = (ax - bx) * (ax - bx) := wrapI (by omega)
  have k4 : IntKind.i64.wrap ((ay - by_) * (ay - by_)) = (ay - by_) * (ay - by_) := wrapI (by omega)
  have k5 : IntKind.i64.wrap ((ax - bx) * (ax - bx) + (ay - by_) * (ay - by_)) = (ax - bx) * (ax - bx) + (ay - by_) * (ay - by_) := wrapI (by omega)
  go_enter Try.func196, Try.ntmps196
  go_wp2
  go_ret
  exact ⟨rfl, ((Below.refl _ _).alloc (Nat.le_refl _) _).alloc (by simp) _⟩
set_option maxHeartbeats 1600000 in
theorem l14Dot_any (s : Seg) (p : Pt) (w : World) (hs : s.ok) (hp : p.ok) :
    Calls Try.prog 197 #[.agg #[.int .i64 s.ax, .int .i64 s.ay, .int .i64 s.bx, .int .i64 s.by_], .agg #[.int .i64 p.x, .int .i64 p.y]] w fun e w' => e = .returned (.int .i64 (dotS s p)) ∧ Below w.heap.size w w' := by
  obtain ⟨a1, a2, a3, a4⟩ := hs
  obtain ⟨b1, b2⟩ := hp
  have a := mul_bd (a := s.bx - s.ax) (b := p.x - s.ax) (M := 1200) (N := 1200) (by omega) (by omega) (by omega) (by omega)
  have b := mul_bd (a := s.by_ - s.ay) (b := p.y - s.ay) (M := 1200) (N := 1200) (by omega) (by omega) (by omega) (by omega)
  have k1 : IntKind.i64.wrap (s.bx - s.ax) = s.bx - s.ax := wrapI (by omega)
  have k2 : IntKind.i64.wrap (p.x - s.ax) = p.x - s.ax := wrapI (by omega)
  have k3 : IntKind.i64.wrap (s.by_ - s.ay) = s.by_ - s.ay := wrapI (by omega)
  have k4 : IntKind.i64.wrap (p.y - s.ay) = p.y - s.ay := wrapI (by omega)
  have k5 : IntKind.i64.wrap ((s.bx - s.ax) * (p.x - s.ax)) = (s.bx - s.ax) * (p.x - s.ax) := wrapI (by omega)
  have k6 : IntKind.i64.wrap ((s.by_ - s.ay) * (p.y - s.ay)) = (s.by_ - s.ay) * (p.y - s.ay) := wrapI (by omega)
  have k7 : IntKind.i64.wrap ((s.bx - s.ax) * (p.x - s.ax) + (s.by_ - s.ay) * (p.y - s.ay)) = (s.bx - s.ax) * (p.x - s.ax) + (s.by_ - s.ay) * (p.y - s.ay) := wrapI (by omega)
  go_enter Try.func197, Try.ntmps197
  go_wp2
  go_ret
  exact ⟨rfl, ((Below.refl _ _).alloc (Nat.le_refl _) _).alloc (by simp) _⟩
set_option maxHeartbeats 1600000 in
theorem l14Cross_any (s : Seg) (p : Pt) (w : World) (hs : s.ok) (hp : p.ok) :
    Calls Try.prog 199 #[.agg #[.int .i64 s.ax, .int .i64 s.ay, .int .i64 s.bx, .int .i64 s.by_], .agg #[.int .i64 p.x, .int .i64 p.y]] w fun e w' => e = .returned (.int .i64 (crossS s p)) ∧ Below w.heap.size w w' := by
  obtain ⟨a1, a2, a3, a4⟩ := hs
  obtain ⟨b1, b2⟩ := hp
  have a := mul_bd (a := s.bx - s.ax) (b := p.y - s.ay) (M := 1200) (N := 1200) (by omega) (by omega) (by omega) (by omega)
  have b := mul_bd (a := s.by_ - s.ay) (b := p.x - s.ax) (M := 1200) (N := 1200) (by omega) (by omega) (by omega) (by omega)
  have k1 : IntKind.i64.wrap (s.bx - s.ax) = s.bx - s.ax := wrapI (by omega)
  have k2 : IntKind.i64.wrap (p.x - s.ax) = p.x - s.ax := wrapI (by omega)
  have k3 : IntKind.i64.wrap (s.by_ - s.ay) = s.by_ - s.ay := wrapI (by omega)
  have k4 : IntKind.i64.wrap (p.y - s.ay) = p.y - s.ay := wrapI (by omega)
  have k5 : IntKind.i64.wrap ((s.bx - s.ax) * (p.y - s.ay)) = (s.bx - s.ax) * (p.y - s.ay) := wrapI (by omega)
  have k6 : IntKind.i64.wrap ((s.by_ - s.ay) * (p.x - s.ax)) = (s.by_ - s.ay) * (p.x - s.ax) := wrapI (by omega)
  have k7 : IntKind.i64.wrap ((s.bx - s.ax) * (p.y - s.ay) - (s.by_ - s.ay) * (p.x - s.ax)) = (s.bx - s.ax) * (p.y - s.ay) - (s.by_ - s.ay) * (p.x - s.ax) := wrapI (by omega)
  go_enter Try.func199, Try.ntmps199
  go_wp2
  go_ret
  exact ⟨rfl, ((Below.refl _ _).alloc (Nat.le_refl _) _).alloc (by simp) _⟩

set_option maxHeartbeats 3200000 in
theorem l14Make_any (a b : Nat) (ha : a ≤ 9223372036854775807) (hb : b ≤ 9223372036854775807) (hb0 : 0 < b) (w : World) :
    Calls Try.prog 198 #[.int .i64 a, .int .i64 b] w fun e w' => e = .returned (.agg #[.int .i64 (a / Nat.gcd a b : Nat), .int .i64 (b / Nat.gcd a b : Nat)]) ∧ Below w.heap.size w w' := by
  have hg0 : 0 < Nat.gcd a b := Nat.gcd_pos_of_pos_right _ hb0
  obtain ⟨W, hW⟩ : ∃ W : World, W = w.alloc (.cells #[.int .i64 0, .int .i64 0] 95) := ⟨_, rfl⟩
  have hbW : Below w.heap.size w W := by rw [hW]; exact (Below.refl _ _).alloc (Nat.le_refl _) _
  have hA : Blk W w.heap.size 95 #[.int .i64 0, .int .i64 0] := by rw [hW]; exact Blk.new _ _ _
  go_enter Try.func198, Try.ntmps198
  go_wp2_with fail
  rw [← hW]
  clear hW
  refine (l14Gcd_any a b ha hb W).mono ?_
  rintro e w1 ⟨rfl, hq⟩
  subst hq
  obtain ⟨x, hx⟩ : ∃ x, Nat.gcd a b = x := ⟨_, rfl⟩
  rw [hx] at hg0 ⊢
  have hx0 : ¬ (x : Int) = 0 := by omega
  have c0 := hA.cell 0
  have c1 := hA.cell 1
  simp at c0 c1
  have f0 := hA.frozen 0
  have f1 := hA.frozen 1
  have hd1 : (a : Int) / (x : Int) = ((a / x : Nat) : Int) := rfl
  have hd2 : (b : Int) / (x : Int) = ((b / x : Nat) : Int) := rfl
  have hl1 : a / x ≤ a := Nat.div_le_self _ _
  have hl2 : b / x ≤ b := Nat.div_le_self _ _
  obtain ⟨P, hP⟩ : ∃ P : Nat, a / x = P := ⟨_, rfl⟩
  obtain ⟨Q, hQ⟩ : ∃ P : Nat, b / x = P := ⟨_, rfl⟩
  rw [hP] at hd1 hl1
  rw [hQ] at hd2 hl2
  have HP : Hid (a / Nat.gcd a b = P) := by show _ = _; rw [hx]; exact hP
  have HQ : Hid (b / Nat.gcd a b = Q) := by show _ = _; rw [hx]; exact hQ
  clear hP hQ hx hA
  go_wp2
  go_region
  all_goals go_wp2
  all_goals exact bodyPost_ret (v := .agg #[.int .i64 P, .int .i64 Q]) (by simp [results, Try.results198, go_sem, c0, c1]) rfl ⟨by rw [HP.out, HQ.out], by repeat (first | exact bel_drewN hbW _ | exact hbW | (refine Below.setCell ?_ (by first | (simp; done) | (simp; omega)) _) | refine Below.drew ?_)⟩
theorem makeOk {a b : Nat} (ha : a ≤ 1000000000000000000) (hb0 : 0 < b) (hb : b ≤ 1000000000) : fracOk ⟨((a / Nat.gcd a b : Nat) : Int), ((b / Nat.gcd a b : Nat) : Int)⟩ = true := by
  have hg0 : 0 < Nat.gcd a b := Nat.gcd_pos_of_pos_right _ hb0
  have h1 : a / Nat.gcd a b ≤ a := Nat.div_le_self _ _
  have h2 : b / Nat.gcd a b ≤ b := Nat.div_le_self _ _
  have h3 : 0 < b / Nat.gcd a b := Nat.div_pos (Nat.le_of_dvd hb0 (Nat.gcd_dvd_right _ _)) hg0
  have h4 : Nat.gcd (a / Nat.gcd a b) (b / Nat.gcd a b) = 1 := by rw [Nat.gcd_div (Nat.gcd_dvd_left _ _) (Nat.gcd_dvd_right _ _), Nat.div_self hg0]
  generalize a / Nat.gcd a b = P at h1 h4 ⊢
  generalize b / Nat.gcd a b = Q at h2 h3 h4 ⊢
  unfold fracOk
  dsimp only
  rw [inB_true.2 (by omega), inB_true.2 (by omega), Int.toNat_natCast, Int.toNat_natCast, Bool.true_and, Bool.true_and]
  exact decide_eq_true h4
def RetF (w : World) (e : Ending) (w' : World) : Prop := ∃ f : Fraction, e = .returned (.agg #[.int .i64 f.num, .int .i64 f.den]) ∧ fracOk f = true ∧ Below w.heap.size w w'
set_option maxHeartbeats 3200000 in
theorem l14PointSquare_any (s : Seg) (p : Pt) (w : World) (hs : s.ok) (hp : p.ok) :
    Calls Try.prog 136 #[.agg #[.int .i64 s.ax, .int .i64 s.ay, .int .i64 s.bx, .int .i64 s.by_], .agg #[.int .i64 p.x, .int .i64 p.y]] w (RetF w) := by
  have hd := dot_bd hs hp
  have hc := cross_bd hs hp
  have hl := sqD_bd hs.ax hs.ay hs.bx hs.by_
  have ha := sqD_bd hs.ax hs.ay hp.x hp.y
  have hb := sqD_bd hs.bx hs.by_ hp.x hp.y
  have hcc := sq_bd (a := crossS s p) (M := 2880000) (by omega) (by omega)
  obtain ⟨W, hW⟩ : ∃ W : World, W = ((w.alloc (.cells #[.int .i64 s.ax, .int .i64 s.ay, .int .i64 s.bx, .int .i64 s.by_] 91)).alloc (.cells #[.int .i64 p.x, .int .i64 p.y] 34)).alloc (.cells #[.int .i64 0, .int .i64 0] 95) := ⟨_, rfl⟩
  have hbW : Below w.heap.size w W := by rw [hW]; exact (((Below.refl _ _).alloc (Nat.le_refl _) _).alloc (by simp) _).alloc (by simp; omega) _
  have hS : Blk W w.heap.size 91 #[.int .i64 s.ax, .int .i64 s.ay, .int .i64 s.bx, .int .i64 s.by_] := by rw [hW]; exact ((Blk.new _ _ _).alloc _).alloc _
  have hP : Blk W (w.heap.size + 1) 34 #[.int .i64 p.x, .int .i64 p.y] := by rw [hW]; have := (Blk.new (w.alloc (.cells #[.int .i64 s.ax, .int .i64 s.ay, .int .i64 s.bx, .int .i64 s.by_] 91)) 34 #[.int .i64 p.x, .int .i64 p.y]).alloc (.cells #[.int .i64 0, .int .i64 0] 95); simpa using this
  have hF : Blk W (w.heap.size + 2) 95 #[.int .i64 0, .int .i64 0] := by rw [hW]; have := Blk.new ((w.alloc (.cells #[.int .i64 s.ax, .int .i64 s.ay, .int .i64 s.bx, .int .i64 s.by_] 91)).alloc (.cells #[.int .i64 p.x, .int .i64 p.y] 34)) 95 #[.int .i64 0, .int .i64 0]; simpa using this
  have hsz : W.heap.size = w.heap.size + 3 := by rw [hW]; simp
  go_enter Try.func136, Try.ntmps136
  go_wp2_with fail
  rw [← hW]
  clear hW
  refine (l02Square_any s.ax s.ay s.bx s.by_ W hs.ax hs.ay hs.bx hs.by_).mono ?_
  rintro e w1 ⟨rfl, hb1⟩
  have hS1 := hS.bel hb1
  have hP1 := hP.bel hb1
  have hF1 := hF.bel hb1
  have z1 := hb1.size
  have B1 := hbW.trans (hb1.mono hbW.size)
  have s0 : w1.cell? ⟨w.heap.size, 0, none⟩ = some (.int .i64 s.ax) := hS1.cell 0
  have s1 : w1.cell? ⟨w.heap.size, 1, none⟩ = some (.int .i64 s.ay) := hS1.cell 1
  have s2 : w1.cell? ⟨w.heap.size, 2, none⟩ = some (.int .i64 s.bx) := hS1.cell 2
  have s3 : w1.cell? ⟨w.heap.size, 3, none⟩ = some (.int .i64 s.by_) := hS1.cell 3
  have p0 : w1.cell? ⟨w.heap.size + 1, 0, none⟩ = some (.int .i64 p.x) := hP1.cell 0
  have p1 : w1.cell? ⟨w.heap.size + 1, 1, none⟩ = some (.int .i64 p.y) := hP1.cell 1
  go_wp2_with fail
  refine (l14Dot_any s p w1 hs hp).mono ?_
  rintro e w2 ⟨rfl, hb2⟩
  clear s0 s1 s2 s3 p0 p1
  have hS2 := hS1.bel hb2
  have hP2 := hP1.bel hb2
  have hF2 := hF1.bel hb2
  have z2 := hb2.size
  have B2 := B1.trans (hb2.mono B1.size)
  have s0 : w2.cell? ⟨w.heap.size, 0, none⟩ = some (.int .i64 s.ax) := hS2.cell 0
  have s1 : w2.cell? ⟨w.heap.size, 1, none⟩ = some (.int .i64 s.ay) := hS2.cell 1
  have s2 : w2.cell? ⟨w.heap.size, 2, none⟩ = some (.int .i64 s.bx) := hS2.cell 2
  have s3 : w2.cell? ⟨w.heap.size, 3, none⟩ = some (.int .i64 s.by_) := hS2.cell 3
  have p0 : w2.cell? ⟨w.heap.size + 1, 0, none⟩ = some (.int .i64 p.x) := hP2.cell 0
  have p1 : w2.cell? ⟨w.heap.size + 1, 1, none⟩ = some (.int .i64 p.y) := hP2.cell 1
  obtain ⟨D, hD⟩ : ∃ D, dotS s p = D := ⟨_, rfl⟩
  obtain ⟨Lg, hLg⟩ : ∃ Lg, sqD s.ax s.ay s.bx s.by_ = Lg := ⟨_, rfl⟩
  rw [hD] at hd ⊢
  rw [hLg] at hl ⊢
  clear hD hLg
  by_cases h1 : D ≤ 0
  · go_wp2_with fail
    refine (l02Square_any s.ax s.ay p.x p.y w2 hs.ax hs.ay hp.x hp.y).mono ?_
    rintro e w3 ⟨rfl, hb3⟩
    obtain ⟨q, hq⟩ := Int.eq_ofNat_of_zero_le ha.1
    rw [hq] at ha ⊢
    have hF3 := hF2.bel hb3
    have B3 := B2.trans (hb3.mono B2.size)
    go_wp2_with fail
    refine (l14Make_any q 1 (by omega) (by omega) (by omega) w3).mono ?_
    rintro e w4 ⟨rfl, hb4⟩
    have hF4 := hF3.bel hb4
    have B4 := B3.trans (hb4.mono B3.size)
    have hok := makeOk (a := q) (b := 1) (by omega) (by omega) (by omega)
    obtain ⟨P, hPP⟩ : ∃ P : Nat, q / Nat.gcd q 1 = P := ⟨_, rfl⟩
    obtain ⟨Q, hQQ⟩ : ∃ Q : Nat, 1 / Nat.gcd q 1 = Q := ⟨_, rfl⟩
    rw [hPP, hQQ] at hok ⊢
    have c0 := (hF4.cell 0).trans rfl
    have c1 := (hF4.cell 1).trans rfl
    have f0 := hF4.frozen 0
    have f1 := hF4.frozen 1
    clear hPP hQQ
    go_wp2
    exact bodyPost_ret (v := .agg #[.int .i64 P, .int .i64 Q]) (by simp [results, Try.results136, go_sem, c0, c1]) rfl ⟨⟨P, Q⟩, rfl, hok, (B4.setCell (p := ⟨w.heap.size + 2, 0, none⟩) (by show _ ≤ w.heap.size + 2; omega) _).setCell (p := ⟨w.heap.size + 2, 1, none⟩) (by show _ ≤ w.heap.size + 2; omega) _⟩
  · by_cases h2 : Lg ≤ D
    · go_wp2_with fail
      refine (l02Square_any s.bx s.by_ p.x p.y w2 hs.bx hs.by_ hp.x hp.y).mono ?_
      rintro e w3 ⟨rfl, hb3⟩
      obtain ⟨q, hq⟩ := Int.eq_ofNat_of_zero_le hb.1
      rw [hq] at hb ⊢
      have hF3 := hF2.bel hb3
      have B3 := B2.trans (hb3.mono B2.size)
      go_wp2_with fail
      refine (l14Make_any q 1 (by omega) (by omega) (by omega) w3).mono ?_
      rintro e w4 ⟨rfl, hb4⟩
      have hF4 := hF3.bel hb4
      have B4 := B3.trans (hb4.mono B3.size)
      have hok := makeOk (a := q) (b := 1) (by omega) (by omega) (by omega)
      obtain ⟨P, hPP⟩ : ∃ P : Nat, q / Nat.gcd q 1 = P := ⟨_, rfl⟩
      obtain ⟨Q, hQQ⟩ : ∃ Q : Nat, 1 / Nat.gcd q 1 = Q := ⟨_, rfl⟩
      rw [hPP, hQQ] at hok ⊢
      have c0 := (hF4.cell 0).trans rfl
      have c1 := (hF4.cell 1).trans rfl
      have f0 := hF4.frozen 0
      have f1 := hF4.frozen 1
      clear hPP hQQ
      go_wp2
      exact bodyPost_ret (v := .agg #[.int .i64 P, .int .i64 Q]) (by simp [results, Try.results136, go_sem, c0, c1]) rfl ⟨⟨P, Q⟩, rfl, hok, (B4.setCell (p := ⟨w.heap.size + 2, 0, none⟩) (by show _ ≤ w.heap.size + 2; omega) _).setCell (p := ⟨w.heap.size + 2, 1, none⟩) (by show _ ≤ w.heap.size + 2; omega) _⟩
    · obtain ⟨q, hq⟩ := Int.eq_ofNat_of_zero_le hcc.1
      obtain ⟨l, rfl⟩ := Int.eq_ofNat_of_zero_le hl.1
      have hwr : IntKind.i64.wrap (crossS s p * crossS s p) = (q : Int) := by rw [hq]; exact wrapI (by omega)
      go_wp2_with fail
      refine (l14Cross_any s p w2 hs hp).mono ?_
      rintro e w3 ⟨rfl, hb3⟩
      have hF3 := hF2.bel hb3
      have B3 := B2.trans (hb3.mono B2.size)
      go_wp2_with fail
      have hq0 : 0 ≤ (q : Int) ∧ (q : Int) ≤ 8294400000000 := by rw [← hq]; omega
      refine (l14Make_any q l (by omega) (by omega) (by omega) w3).mono ?_
      rintro e w4 ⟨rfl, hb4⟩
      have hF4 := hF3.bel hb4
      have B4 := B3.trans (hb4.mono B3.size)
      have hok := makeOk (a := q) (b := l) (by omega) (by omega) (by omega)
      obtain ⟨P, hPP⟩ : ∃ P : Nat, q / Nat.gcd q l = P := ⟨_, rfl⟩
      obtain ⟨Q, hQQ⟩ : ∃ Q : Nat, l / Nat.gcd q l = Q := ⟨_, rfl⟩
      rw [hPP, hQQ] at hok ⊢
      have c0 := (hF4.cell 0).trans rfl
      have c1 := (hF4.cell 1).trans rfl
      have f0 := hF4.frozen 0
      have f1 := hF4.frozen 1
      clear hPP hQQ
      go_wp2
      exact bodyPost_ret (v := .agg #[.int .i64 P, .int .i64 Q]) (by simp [results, Try.results136, go_sem, c0, c1]) rfl ⟨⟨P, Q⟩, rfl, hok, (B4.setCell (p := ⟨w.heap.size + 2, 0, none⟩) (by show _ ≤ w.heap.size + 2; omega) _).setCell (p := ⟨w.heap.size + 2, 1, none⟩) (by show _ ≤ w.heap.size + 2; omega) _⟩

theorem l14Point_any (x y : Int) (w : World) (hx : -600 ≤ x ∧ x ≤ 600) (hy : -600 ≤ y ∧ y ≤ 600) :
    Calls Try.prog 135 #[.agg #[.int .i64 x, .int .i64 y]] w fun e w' => e = .returned (.bool true) ∧ Below w.heap.size w w' := by
  go_enter Try.func135, Try.ntmps135
  go_wp2_with (go_at_call 101; refine (l00In_any _ _ _ _).mono ?_; rintro e w1 ⟨rfl, rfl⟩; rw [inB_true.2 (by omega)])
  go_ret
  exact ⟨rfl, (Below.refl _ _).alloc (Nat.le_refl _) _⟩
theorem l14Ok_any (s : Seg) (w : World) (hs : s.ok) :
    Calls Try.prog 134 #[.agg #[.int .i64 s.ax, .int .i64 s.ay, .int .i64 s.bx, .int .i64 s.by_]] w fun e w' => e = .returned (.bool true) ∧ Below w.heap.size w w' := by
  obtain ⟨W, hW⟩ : ∃ W : World, W = w.alloc (.cells #[.int .i64 s.ax, .int .i64 s.ay, .int .i64 s.bx, .int .i64 s.by_] 91) := ⟨_, rfl⟩
  have hbW : Below w.heap.size w W := by rw [hW]; exact (Below.refl _ _).alloc (Nat.le_refl _) _
  have hS : Blk W w.heap.size 91 #[.int .i64 s.ax, .int .i64 s.ay, .int .i64 s.bx, .int .i64 s.by_] := by rw [hW]; exact Blk.new _ _ _
  go_enter Try.func134, Try.ntmps134
  go_wp2_with fail
  rw [← hW]
  clear hW
  refine (l14Point_any s.ax s.ay W hs.ax hs.ay).mono ?_
  rintro e w1 ⟨rfl, hb1⟩
  have hS1 := hS.bel hb1
  have s2 : w1.cell? ⟨w.heap.size, 2, none⟩ = some (.int .i64 s.bx) := hS1.cell 2
  have s3 : w1.cell? ⟨w.heap.size, 3, none⟩ = some (.int .i64 s.by_) := hS1.cell 3
  go_wp2_with fail
  refine (l14Point_any s.bx s.by_ w1 hs.bx hs.by_).mono ?_
  rintro e w2 ⟨rfl, hb2⟩
  go_wp2
  go_ret
  exact ⟨rfl, hbW.trans ((hb1.trans (hb2.mono hb1.size)).mono hbW.size)⟩
def RetFC (w : World) (e : Ending) (w' : World) : Prop := ∃ f : Fraction, e = .returned (.tuple #[.agg #[.int .i64 f.num, .int .i64 f.den], .int .i64 0]) ∧ fracOk f = true ∧ Below w.heap.size w w'
set_option maxHeartbeats 1600000 in
theorem pointSquare_any (s : Seg) (p : Pt) (w : World) (hs : s.ok) (hp : p.ok) :
    Calls Try.prog 57 #[.agg #[.int .i64 s.ax, .int .i64 s.ay, .int .i64 s.bx, .int .i64 s.by_], .agg #[.int .i64 p.x, .int .i64 p.y]] w (RetFC w) := by
  obtain ⟨W, hW⟩ : ∃ W : World, W = ((w.alloc (.cells #[.int .i64 s.ax, .int .i64 s.ay, .int .i64 s.bx, .int .i64 s.by_] 91)).alloc (.cells #[.int .i64 p.x, .int .i64 p.y] 34)).alloc (.cells #[.int .i64 0, .int .i64 0] 95) := ⟨_, rfl⟩
  have hbW : Below w.heap.size w W := by rw [hW]; exact (((Below.refl _ _).alloc (Nat.le_refl _) _).alloc (by simp) _).alloc (by simp; omega) _
  have hS : Blk W w.heap.size 91 #[.int .i64 s.ax, .int .i64 s.ay, .int .i64 s.bx, .int .i64 s.by_] := by rw [hW]; exact ((Blk.new _ _ _).alloc _).alloc _
  have hP : Blk W (w.heap.size + 1) 34 #[.int .i64 p.x, .int .i64 p.y] := by rw [hW]; have := (Blk.new (w.alloc (.cells #[.int .i64 s.ax, .int .i64 s.ay, .int .i64 s.bx, .int .i64 s.by_] 91)) 34 #[.int .i64 p.x, .int .i64 p.y]).alloc (.cells #[.int .i64 0, .int .i64 0] 95); simpa using this
  have hF : Blk W (w.heap.size + 2) 95 #[.int .i64 0, .int .i64 0] := by rw [hW]; have := Blk.new ((w.alloc (.cells #[.int .i64 s.ax, .int .i64 s.ay, .int .i64 s.bx, .int .i64 s.by_] 91)).alloc (.cells #[.int .i64 p.x, .int .i64 p.y] 34)) 95 #[.int .i64 0, .int .i64 0]; simpa using this
  go_enter Try.func57, Try.ntmps57
  go_wp2_with fail
  rw [← hW]
  clear hW
  refine (l14Ok_any s W hs).mono ?_
  rintro e w1 ⟨rfl, hb1⟩
  have hS1 := hS.bel hb1
  have hP1 := hP.bel hb1
  have hF1 := hF.bel hb1
  have B1 := hbW.trans (hb1.mono hbW.size)
  have p0 : w1.cell? ⟨w.heap.size + 1, 0, none⟩ = some (.int .i64 p.x) := hP1.cell 0
  have p1 : w1.cell? ⟨w.heap.size + 1, 1, none⟩ = some (.int .i64 p.y) := hP1.cell 1
  go_wp2_with fail
  refine (l14Point_any p.x p.y w1 hp.x hp.y).mono ?_
  rintro e w2 ⟨rfl, hb2⟩
  clear p0 p1
  have hS2 := hS1.bel hb2
  have hP2 := hP1.bel hb2
  have hF2 := hF1.bel hb2
  have B2 := B1.trans (hb2.mono B1.size)
  have s0 : w2.cell? ⟨w.heap.size, 0, none⟩ = some (.int .i64 s.ax) := hS2.cell 0
  have s1 : w2.cell? ⟨w.heap.size, 1, none⟩ = some (.int .i64 s.ay) := hS2.cell 1
  have s2 : w2.cell? ⟨w.heap.size, 2, none⟩ = some (.int .i64 s.bx) := hS2.cell 2
  have s3 : w2.cell? ⟨w.heap.size, 3, none⟩ = some (.int .i64 s.by_) := hS2.cell 3
  have p0 : w2.cell? ⟨w.heap.size + 1, 0, none⟩ = some (.int .i64 p.x) := hP2.cell 0
  have p1 : w2.cell? ⟨w.heap.size + 1, 1, none⟩ = some (.int .i64 p.y) := hP2.cell 1
  go_wp2_with fail
  refine (l14PointSquare_any s p w2 hs hp).mono ?_
  rintro e w3 ⟨f, rfl, hok, hb3⟩
  have hF3 := hF2.bel hb3
  have B3 := B2.trans (hb3.mono B2.size)
  have c0 := (hF3.cell 0).trans rfl
  have c1 := (hF3.cell 1).trans rfl
  have f0 := hF3.frozen 0
  have f1 := hF3.frozen 1
  go_wp2
  exact bodyPost_ret (v := .tuple #[.agg #[.int .i64 f.num, .int .i64 f.den], .int .i64 0]) (by simp [results, Try.results57, go_sem, c0, c1]) rfl ⟨f, rfl, hok, (B3.setCell (p := ⟨w.heap.size + 2, 0, none⟩) (by show _ ≤ w.heap.size + 2; omega) _).setCell (p := ⟨w.heap.size + 2, 1, none⟩) (by show _ ≤ w.heap.size + 2; omega) _⟩
end Go.Proofs.Ytbklbhbjlbojdaa
