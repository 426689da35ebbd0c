/- Distances of segments: the plain law of FnDistances. No program in sight. -/
import Derived.Test.YtdhobglhjdgboaaDoorPtSq
import Derived.Test.YtdhobglhjdgboaaDoorFracOrd
namespace Go.Proofs.YtdhobglhjdgboaaDoor
set_option linter.unusedVariables false

def ptA (s : Seg) : Pt := ⟨s.ax, s.ay⟩
def ptB (s : Seg) : Pt := ⟨s.bx, s.by_⟩
theorem ptA_ok {s : Seg} (h : s.ok) : (ptA s).ok := ⟨h.ax, h.ay⟩
theorem ptB_ok {s : Seg} (h : s.ok) : (ptB s).ok := ⟨h.bx, h.by_⟩
def alS (s : Seg) (p : Pt) : Int := (p.x - s.ax) * (s.bx - s.ax) + (p.y - s.ay) * (s.by_ - s.ay)
def lenS (s : Seg) : Int := (s.bx - s.ax) * (s.bx - s.ax) + (s.by_ - s.ay) * (s.by_ - s.ay)
def sqP (p q : Pt) : Int := (p.x - q.x) * (p.x - q.x) + (p.y - q.y) * (p.y - q.y)
/-- the point lies on the segment -/
def cvB (s : Seg) (p : Pt) : Bool := decide (crossS s p = 0) && (inB p.x (min s.ax s.bx) (max s.ax s.bx) && inB p.y (min s.ay s.by_) (max s.ay s.by_))
def crB (a b : Seg) : Bool := decide (sgn (crossS a (ptA b)) 0 * sgn (crossS a (ptB b)) 0 < 0)
def meetB (a b : Seg) : Bool := (cvB a (ptA b) || (cvB a (ptB b) || (cvB b (ptA a) || cvB b (ptB a)))) || (crB a b && crB b a)
def redF (a b : Nat) : Fraction := ⟨((a / Nat.gcd a b : Nat) : Int), ((b / Nat.gcd a b : Nat) : Int)⟩
def psF (s : Seg) (p : Pt) : Fraction := if alS s p ≤ 0 then ⟨sqP p (ptA s), 1⟩ else if lenS s ≤ alS s p then ⟨sqP p (ptB s), 1⟩ else redF (crossS s p * crossS s p).toNat (lenS s).toNat
def mnF (best f : Fraction) : Fraction := if f.num * best.den < best.num * f.den then f else best
def ssF (a b : Seg) : Fraction := if meetB a b then ⟨0, 1⟩ else mnF (mnF (mnF (psF a (ptA b)) (psF a (ptB b))) (psF b (ptA a))) (psF b (ptB a))
theorem meetB_comm (a b : Seg) : meetB a b = meetB b a := by
  unfold meetB
  cases cvB a (ptA b) <;> cases cvB a (ptB b) <;> cases cvB b (ptA a) <;> cases cvB b (ptB a) <;> cases crB a b <;> cases crB b a <;> rfl
theorem sq_nn (a : Int) : 0 ≤ a * a := by
  rcases Int.le_total 0 a with h | h
  · exact Int.mul_nonneg h h
  · exact Int.mul_nonneg_of_nonpos_of_nonpos h h
theorem sq_zero {a : Int} (h : a * a = 0) : a = 0 := by
  rcases Int.mul_eq_zero.1 h with h | h <;> exact h
theorem sqP_nn (p q : Pt) : 0 ≤ sqP p q := by
  have := sq_nn (p.x - q.x); have := sq_nn (p.y - q.y); unfold sqP; omega
theorem sqP_zero {p q : Pt} (h : sqP p q = 0) : p = q := by
  have h1 := sq_nn (p.x - q.x); have h2 := sq_nn (p.y - q.y); unfold sqP at h
  have a := sq_zero (show (p.x - q.x) * (p.x - q.x) = 0 by omega)
  have b := sq_zero (show (p.y - q.y) * (p.y - q.y) = 0 by omega)
  cases p; cases q; simp only [Pt.mk.injEq] at *; omega
theorem sqP_bd {p q : Pt} (hp : p.ok) (hq : q.ok) : sqP p q ≤ 2880000 := by
  obtain ⟨a1, a2⟩ := hp
  obtain ⟨b1, b2⟩ := hq
  have a := sq_bd (a := p.x - q.x) (M := 1200) (by omega) (by omega)
  have b := sq_bd (a := p.y - q.y) (M := 1200) (by omega) (by omega)
  unfold sqP; omega
theorem lenS_bd {s : Seg} (h : s.ok) : 0 ≤ lenS s ∧ lenS s ≤ 2880000 := by
  obtain ⟨a1, a2, a3, a4⟩ := h
  have a := sq_bd (a := s.bx - s.ax) (M := 1200) (by omega) (by omega)
  have b := sq_bd (a := s.by_ - s.ay) (M := 1200) (by omega) (by omega)
  unfold lenS; omega
/-- Lagrange's identity -/
theorem lagr (s : Seg) (p : Pt) : crossS s p * crossS s p + alS s p * alS s p = sqP p (ptA s) * lenS s := by
  unfold crossS alS sqP lenS ptA; grind
theorem cosine (s : Seg) (p : Pt) : sqP p (ptB s) = sqP p (ptA s) - 2 * alS s p + lenS s := by
  unfold alS sqP lenS ptA ptB; grind
theorem cross_bd2 {s : Seg} {p : Pt} (hs : s.ok) (hp : p.ok) : crossS s p * crossS s p ≤ 8294400000000 := by
  have := cross_bd hs hp
  have := sq_bd (a := crossS s p) (M := 2880000) (by omega) (by omega)
  omega
theorem redF_mul (a b : Nat) : (redF a b).num * (Nat.gcd a b : Int) = (a : Int) ∧ (redF a b).den * (Nat.gcd a b : Int) = (b : Int) := by
  have h1 : a / Nat.gcd a b * Nat.gcd a b = a := Nat.div_mul_cancel (Nat.gcd_dvd_left a b)
  have h2 : b / Nat.gcd a b * Nat.gcd a b = b := Nat.div_mul_cancel (Nat.gcd_dvd_right a b)
  constructor
  · show ((a / Nat.gcd a b : Nat) : Int) * _ = _
    rw [← Int.natCast_mul, h1]
  · show ((b / Nat.gcd a b : Nat) : Int) * _ = _
    rw [← Int.natCast_mul, h2]
theorem int_frac {n : Int} (h0 : 0 ≤ n) (h1 : n ≤ 1000000000000000000) : fracOk ⟨n, 1⟩ = true := by
  unfold fracOk
  rw [inB_true.2 ⟨h0, h1⟩, inB_true.2 (by dsimp only; omega)]
  simp
section
variable {s : Seg} {p : Pt}
theorem psF_ok (hs : s.ok) (hp : p.ok) : fracOk (psF s p) = true := by
  unfold psF
  split
  · have := sqP_bd hp (ptA_ok hs); have := sqP_nn p (ptA s); exact int_frac (by omega) (by omega)
  · split
    · have := sqP_bd hp (ptB_ok hs); have := sqP_nn p (ptB s); exact int_frac (by omega) (by omega)
    · have := cross_bd2 hs hp; have := lenS_bd hs
      exact makeOk (by omega) (by omega) (by omega)
/-- no further than the segment's first end -/
theorem psF_end (hs : s.ok) : (psF s p).num ≤ sqP p (ptA s) * (psF s p).den := by
  unfold psF
  split
  · show sqP p (ptA s) ≤ sqP p (ptA s) * 1; omega
  · split
    · have := cosine s p; show sqP p (ptB s) ≤ sqP p (ptA s) * 1; omega
    · have hl : 0 < lenS s := by omega
      have e1 : ((crossS s p * crossS s p).toNat : Int) = crossS s p * crossS s p := Int.toNat_of_nonneg (sq_nn _)
      have e2 : ((lenS s).toNat : Int) = lenS s := Int.toNat_of_nonneg (by omega)
      obtain ⟨m1, m2⟩ := redF_mul (crossS s p * crossS s p).toNat (lenS s).toNat
      rw [e1] at m1
      rw [e2] at m2
      have hg : (0 : Int) < (Nat.gcd (crossS s p * crossS s p).toNat (lenS s).toNat : Int) := by
        have := Nat.gcd_pos_of_pos_right (crossS s p * crossS s p).toNat (show 0 < (lenS s).toNat by omega)
        omega
      have l1 := lagr s p
      have l2 := sq_nn (alS s p)
      refine Int.le_of_mul_le_mul_right ?_ hg
      rw [m1, Int.mul_assoc, m2]; omega
theorem psF_num (s : Seg) (p : Pt) : 0 ≤ (psF s p).num := by
  unfold psF
  split
  · exact sqP_nn _ _
  · split
    · exact sqP_nn _ _
    · exact Int.natCast_nonneg _
theorem psF_small (hs : s.ok) (hp : p.ok) : (psF s p).num ≤ 2880000 * (psF s p).den := by
  have h1 := psF_end (p := p) hs
  have h2 := sqP_bd hp (ptA_ok hs)
  obtain ⟨a, b, e, hb, _⟩ := frac_parts (psF_ok hs hp)
  rw [e] at h1 ⊢
  dsimp only at h1 ⊢
  have := Int.mul_le_mul_of_nonneg_right h2 (show (0 : Int) ≤ (b : Int) by omega)
  omega
theorem in_mid {a b c d L : Int} (hL : 0 < L) (hd0 : 0 ≤ d) (hd1 : d ≤ L) (h : (c - a) * L = (b - a) * d) : inB c (min a b) (max a b) = true := by
  rw [inB_true]
  rcases Int.le_total a b with hab | hab
  · have h1 : 0 ≤ (b - a) * d := Int.mul_nonneg (by omega) hd0
    have h2 : (b - a) * d ≤ (b - a) * L := Int.mul_le_mul_of_nonneg_left hd1 (by omega)
    have h3 : 0 ≤ c - a := Int.le_of_mul_le_mul_right (show 0 * L ≤ (c - a) * L by omega) hL
    have h4 : c - a ≤ b - a := Int.le_of_mul_le_mul_right (show (c - a) * L ≤ (b - a) * L by omega) hL
    omega
  · have h1 : 0 ≤ (a - b) * d := Int.mul_nonneg (by omega) hd0
    have h2 : (a - b) * d ≤ (a - b) * L := Int.mul_le_mul_of_nonneg_left hd1 (by omega)
    have e1 : (a - b) * d = - ((b - a) * d) := by grind
    have e2 : (a - c) * L = - ((c - a) * L) := by grind
    have h3 : 0 ≤ a - c := Int.le_of_mul_le_mul_right (show 0 * L ≤ (a - c) * L by omega) hL
    have h4 : a - c ≤ a - b := Int.le_of_mul_le_mul_right (show (a - c) * L ≤ (a - b) * L by omega) hL
    omega
theorem psF_zero (hs : s.ok) (h : (psF s p).num = 0) : cvB s p = true := by
  unfold psF at h
  split at h
  · have e := sqP_zero (show sqP p (ptA s) = 0 from h)
    rw [e]; unfold cvB ptA
    rw [decide_eq_true (show crossS s ⟨s.ax, s.ay⟩ = 0 by unfold crossS; grind), inB_true.2 (by dsimp only; omega), inB_true.2 (by dsimp only; omega)]; rfl
  · split at h
    · have e := sqP_zero (show sqP p (ptB s) = 0 from h)
      rw [e]; unfold cvB ptB
      rw [decide_eq_true (show crossS s ⟨s.bx, s.by_⟩ = 0 by unfold crossS; grind), inB_true.2 (by dsimp only; omega), inB_true.2 (by dsimp only; omega)]; rfl
    · rename_i h1 h2
      have e1 : ((crossS s p * crossS s p).toNat : Int) = crossS s p * crossS s p := Int.toNat_of_nonneg (sq_nn _)
      obtain ⟨m1, _⟩ := redF_mul (crossS s p * crossS s p).toNat (lenS s).toNat
      rw [h, e1, Int.zero_mul] at m1
      have hc := sq_zero m1.symm
      have k1 : (p.x - s.ax) * lenS s = (s.bx - s.ax) * alS s p := by
        have : (p.x - s.ax) * lenS s - (s.bx - s.ax) * alS s p = - (s.by_ - s.ay) * crossS s p := by unfold lenS alS crossS; grind
        rw [hc] at this; omega
      have k2 : (p.y - s.ay) * lenS s = (s.by_ - s.ay) * alS s p := by
        have : (p.y - s.ay) * lenS s - (s.by_ - s.ay) * alS s p = (s.bx - s.ax) * crossS s p := by unfold lenS alS crossS; grind
        rw [hc] at this; omega
      unfold cvB
      rw [decide_eq_true hc, in_mid (by omega) (by omega) (by omega) k1, in_mid (by omega) (by omega) (by omega) k2]; rfl
end

def leF (f g : Fraction) : Prop := f.num * g.den ≤ g.num * f.den
theorem leF_trans {f g h : Fraction} (hf : fracOk f = true) (hg : fracOk g = true) (hh : fracOk h = true) (h1 : leF f g) (h2 : leF g h) : leF f h := by
  have := cf_trans hf hg hh (by rw [(cf_val hf hg).1]; exact sgn_le.2 h1) (by rw [(cf_val hg hh).1]; exact sgn_le.2 h2)
  rw [(cf_val hf hh).1] at this
  exact sgn_le.1 this
theorem leF_refl (f : Fraction) : leF f f := Int.le_refl _
theorem leF_anti {f g : Fraction} (hf : fracOk f = true) (hg : fracOk g = true) (h1 : leF f g) (h2 : leF g f) : f = g := by
  have h := cf_eq hf hg
  rw [(cf_val hf hg).1, decide_eq_true (sgn_zero.2 (Int.le_antisymm h1 h2)), Bool.and_eq_true, decide_eq_true_eq, decide_eq_true_eq] at h
  cases f; cases g; simp only [Fraction.mk.injEq]; exact h
/-- the least of some: one of them, and no greater than any -/
def LeastF (m : Fraction) (l : List Fraction) : Prop := m ∈ l ∧ ∀ f ∈ l, leF m f
theorem LeastF.one (f : Fraction) : LeastF f [f] := ⟨by simp, fun g hg => by rw [List.mem_singleton] at hg; subst hg; exact leF_refl _⟩
theorem LeastF.step {m f : Fraction} {l : List Fraction} (hok : ∀ g ∈ l, fracOk g = true) (hf : fracOk f = true) (h : LeastF m l) : LeastF (mnF m f) (l ++ [f]) := by
  have hm := hok m h.1
  unfold mnF
  split
  · rename_i hlt
    refine ⟨by simp, fun g hg => ?_⟩
    rw [List.mem_append, List.mem_singleton] at hg
    rcases hg with hg | rfl
    · exact leF_trans hf hm (hok g hg) (show _ ≤ _ by omega) (h.2 g hg)
    · exact leF_refl _
  · refine ⟨List.mem_append_left _ h.1, fun g hg => ?_⟩
    rw [List.mem_append, List.mem_singleton] at hg
    rcases hg with hg | rfl
    · exact h.2 g hg
    · show _ ≤ _; omega
theorem LeastF.same {m m' : Fraction} {l l' : List Fraction} (hok : ∀ g ∈ l, fracOk g = true) (hl : ∀ g, g ∈ l ↔ g ∈ l') (h : LeastF m l) (h' : LeastF m' l') : m = m' :=
  leF_anti (hok _ h.1) (hok _ ((hl _).2 h'.1)) (h.2 _ ((hl _).2 h'.1)) (h'.2 _ ((hl _).1 h.1))
section
variable {a b : Seg}
def fourF (a b : Seg) : List Fraction := [psF a (ptA b), psF a (ptB b), psF b (ptA a), psF b (ptB a)]
theorem four_ok (ha : a.ok) (hb : b.ok) : ∀ g ∈ fourF a b, fracOk g = true := by
  intro g hg
  simp only [fourF, List.mem_cons, List.not_mem_nil, or_false] at hg
  rcases hg with rfl | rfl | rfl | rfl
  · exact psF_ok ha (ptA_ok hb)
  · exact psF_ok ha (ptB_ok hb)
  · exact psF_ok hb (ptA_ok ha)
  · exact psF_ok hb (ptB_ok ha)
theorem ss_least (ha : a.ok) (hb : b.ok) : LeastF (mnF (mnF (mnF (psF a (ptA b)) (psF a (ptB b))) (psF b (ptA a))) (psF b (ptB a))) (fourF a b) := by
  have hok := four_ok ha hb
  have m1 : ∀ g ∈ [psF a (ptA b)], fracOk g = true := fun g hg => hok g (by simp [fourF] at hg ⊢; simp [hg])
  have m2 : ∀ g ∈ [psF a (ptA b)] ++ [psF a (ptB b)], fracOk g = true := fun g hg => hok g (by simp [fourF] at hg ⊢; rcases hg with h | h <;> simp [h])
  have m3 : ∀ g ∈ [psF a (ptA b)] ++ [psF a (ptB b)] ++ [psF b (ptA a)], fracOk g = true := fun g hg => hok g (by simp [fourF] at hg ⊢; rcases hg with h | h | h <;> simp [h])
  exact (((LeastF.one _).step m1 (psF_ok ha (ptB_ok hb))).step m2 (psF_ok hb (ptA_ok ha))).step m3 (psF_ok hb (ptB_ok ha))
theorem ss_ok (ha : a.ok) (hb : b.ok) : fracOk (ssF a b) = true := by
  unfold ssF
  split
  · rfl
  · exact four_ok ha hb _ (ss_least ha hb).1
theorem ss_comm (ha : a.ok) (hb : b.ok) : ssF a b = ssF b a := by
  unfold ssF
  rw [meetB_comm b a]
  split
  · rfl
  · exact (ss_least ha hb).same (four_ok ha hb) (fun g => by simp only [fourF, List.mem_cons, List.not_mem_nil, or_false]; constructor <;> rintro (h | h | h | h) <;> simp [h]) (ss_least hb ha)
theorem ss_zero (ha : a.ok) (hb : b.ok) : ((ssF a b).num == 0) = meetB a b := by
  cases hm : meetB a b
  · rw [beq_eq_false_iff_ne]
    intro h0
    unfold ssF at h0
    rw [hm] at h0
    have hl := (ss_least ha hb).1
    have h1 : (mnF (mnF (mnF (psF a (ptA b)) (psF a (ptB b))) (psF b (ptA a))) (psF b (ptB a))).num = 0 := h0
    generalize mnF (mnF (mnF (psF a (ptA b)) (psF a (ptB b))) (psF b (ptA a))) (psF b (ptB a)) = m at hl h1
    unfold meetB at hm
    simp only [Bool.or_eq_false_iff] at hm
    simp only [fourF, List.mem_cons, List.not_mem_nil, or_false] at hl
    rcases hl with rfl | rfl | rfl | rfl
    · rw [psF_zero ha h1] at hm; cases hm.1.1
    · rw [psF_zero ha h1] at hm; cases hm.1.2.1
    · rw [psF_zero hb h1] at hm; cases hm.1.2.2.1
    · rw [psF_zero hb h1] at hm; cases hm.1.2.2.2
  · unfold ssF; rw [hm]; rfl
theorem ss_le (ha : a.ok) (hb : b.ok) : leF (ssF a b) (psF a (ptA b)) := by
  unfold ssF
  split
  · show 0 * (psF a (ptA b)).den ≤ (psF a (ptA b)).num * 1
    have := psF_num a (ptA b); omega
  · exact (ss_least ha hb).2 _ (by simp [fourF])
theorem ss_order (ha : a.ok) (hb : b.ok) : cfN (ssF a b) (psF a (ptA b)) ≤ 0 := by
  rw [(cf_val (ss_ok ha hb) (psF_ok ha (ptA_ok hb))).1]; exact sgn_le.2 (ss_le ha hb)
theorem end_order (ha : a.ok) (hb : b.ok) : cfN (psF a (ptA b)) ⟨sqP (ptA a) (ptA b), 1⟩ ≤ 0 := by
  have h1 := sqP_bd (ptA_ok ha) (ptA_ok hb)
  have h2 := sqP_nn (ptA a) (ptA b)
  rw [(cf_val (psF_ok ha (ptA_ok hb)) (int_frac h2 (by omega))).1]
  refine sgn_le.2 ?_
  have := psF_end (s := a) (p := ptA b) ha
  have e : sqP (ptA b) (ptA a) = sqP (ptA a) (ptA b) := by unfold sqP; grind
  rw [e] at this
  show (psF a (ptA b)).num * 1 ≤ _
  rw [Int.mul_one]; exact this
theorem ss_small (ha : a.ok) (hb : b.ok) : (ssF a b).num ≤ 2880000 * (ssF a b).den := by
  unfold ssF
  split
  · decide
  · have hl := (ss_least ha hb).1
    generalize mnF (mnF (mnF (psF a (ptA b)) (psF a (ptB b))) (psF b (ptA a))) (psF b (ptB a)) = m at hl
    simp only [fourF, List.mem_cons, List.not_mem_nil, or_false] at hl
    rcases hl with rfl | rfl | rfl | rfl
    · exact psF_small ha (ptA_ok hb)
    · exact psF_small ha (ptB_ok hb)
    · exact psF_small hb (ptA_ok ha)
    · exact psF_small hb (ptB_ok ha)
theorem ss_small2 (ha : a.ok) (hb : b.ok) : (ssF a b).num ≤ 8294400000000 ∧ (ssF a b).den ≤ 2880000 := by
  have key : ∀ (s : Seg) (p : Pt), s.ok → p.ok → (psF s p).num ≤ 8294400000000 ∧ (psF s p).den ≤ 2880000 := by
    intro s p hs hp
    unfold psF
    split
    · have := sqP_bd hp (ptA_ok hs); exact ⟨by show sqP p (ptA s) ≤ _; omega, by show (1 : Int) ≤ _; omega⟩
    · split
      · have := sqP_bd hp (ptB_ok hs); exact ⟨by show sqP p (ptB s) ≤ _; omega, by show (1 : Int) ≤ _; omega⟩
      · have h1 := cross_bd2 hs hp; have h2 := lenS_bd hs
        have h3 := Nat.div_le_self (crossS s p * crossS s p).toNat (Nat.gcd (crossS s p * crossS s p).toNat (lenS s).toNat)
        have h4 := Nat.div_le_self (lenS s).toNat (Nat.gcd (crossS s p * crossS s p).toNat (lenS s).toNat)
        refine ⟨?_, ?_⟩
        · show (((crossS s p * crossS s p).toNat / _ : Nat) : Int) ≤ _; omega
        · show (((lenS s).toNat / _ : Nat) : Int) ≤ _; omega
  unfold ssF
  split
  · decide
  · have hl := (ss_least ha hb).1
    generalize mnF (mnF (mnF (psF a (ptA b)) (psF a (ptB b))) (psF b (ptA a))) (psF b (ptB a)) = m at hl
    simp only [fourF, List.mem_cons, List.not_mem_nil, or_false] at hl
    rcases hl with rfl | rfl | rfl | rfl
    · exact key _ _ ha (ptA_ok hb)
    · exact key _ _ ha (ptB_ok hb)
    · exact key _ _ hb (ptA_ok ha)
    · exact key _ _ hb (ptB_ok ha)
theorem turn_side (s : Seg) (p : Pt) : sgn (crossS s p) 0 = - sgn (crossS ⟨s.bx, s.by_, s.ax, s.ay⟩ p) 0 := by
  have : crossS ⟨s.bx, s.by_, s.ax, s.ay⟩ p = - crossS s p := by unfold crossS; dsimp only; grind
  rw [this]
  rcases sgn_cases (crossS s p) 0 with ⟨h1, e1⟩ | ⟨h1, h2, e1⟩ | ⟨h1, h2, e1⟩ <;> rcases sgn_cases (-crossS s p) 0 with ⟨h3, e2⟩ | ⟨h3, h4, e2⟩ | ⟨h3, h4, e2⟩ <;> omega
end
end Go.Proofs.YtdhobglhjdgboaaDoor
