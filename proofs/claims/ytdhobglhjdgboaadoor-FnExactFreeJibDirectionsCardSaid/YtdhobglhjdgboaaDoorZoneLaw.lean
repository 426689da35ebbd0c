/- Zones: when a zone is valid, when a line meets it; the two ways to ask agree. No program in sight. -/
import Derived.Test.YtdhobglhjdgboaaDoorGeo
import Derived.Test.YtdhobglhjdgboaaDoorRZone
import Derived.Test.YtdhobglhjdgboaaDoorLiftLaw
namespace Go.Proofs.YtdhobglhjdgboaaDoor
open Go.RowKit
set_option linter.unusedVariables false

abbrev ZV := ZoneV × List Pnt
def pt (cs : List Pnt) (k : Nat) : Pnt := (cs[k]?).getD ⟨0, 0⟩
theorem pt_at {cs : List Pnt} {k : Nat} {p : Pnt} (h : cs[k]? = some p) : pt cs k = p := by unfold pt; rw [h]; rfl
def nxN (n k : Nat) : Nat := (k + 1) % n
def pvN (n k : Nat) : Nat := (k + n - 1) % n
/-- corner i lies not on the left of side k, of which it is no end -/
def badN (cs : List Pnt) (k i : Nat) : Bool := !decide (i = k) && (!decide (i = nxN cs.length k) && decide (crs (pt cs k) (pt cs (nxN cs.length k)) (pt cs i) ≤ 0))
def rowTo (cs : List Pnt) (k m : Nat) : Bool := allTo (fun i => !badN cs k i) m
def turnsTo (cs : List Pnt) (m : Nat) : Bool := allTo (fun k => rowTo cs k cs.length) m
def cornersTo (cs : List Pnt) (m : Nat) : Bool := allTo (fun k => plcB (pt cs k).x (pt cs k).y) m
def bldB (v : ZoneV) : Bool := inB v.storeys 1 60 && (inB v.each 20 60 && decide (v.storeys * v.each ≤ 2000))
def nilB (v : ZoneV) : Bool := decide (v.storeys = 0) && decide (v.each = 0)
def zHd (v : ZoneV) : Bool := if v.kind = 1 then bldB v else (decide (v.kind = 2) || decide (v.kind = 3)) && nilB v
def shapeB (cs : List Pnt) : Bool := inB cs.length 3 12 && (cornersTo cs cs.length && turnsTo cs cs.length)
def zoneOk (z : ZV) : Bool := zHd z.1 && shapeB z.2
theorem shapeB_iff {cs : List Pnt} : shapeB cs = true ↔ (3 ≤ cs.length ∧ cs.length ≤ 12) ∧ cornersTo cs cs.length = true ∧ turnsTo cs cs.length = true := by
  unfold shapeB
  rw [Bool.and_eq_true, Bool.and_eq_true, inB_true]
  constructor
  · rintro ⟨h1, h2⟩; exact ⟨⟨by omega, by omega⟩, h2⟩
  · rintro ⟨h1, h2⟩; exact ⟨⟨by omega, by omega⟩, h2⟩
theorem zoneOk_shape {z : ZV} (h : zoneOk z = true) : (3 ≤ z.2.length ∧ z.2.length ≤ 12) ∧ cornersTo z.2 z.2.length = true ∧ turnsTo z.2 z.2.length = true := by
  unfold zoneOk at h; rw [Bool.and_eq_true] at h; exact shapeB_iff.1 h.2
theorem nx_lt {n k : Nat} (h : 0 < n) : nxN n k < n := Nat.mod_lt _ h
theorem nx_cases {n k : Nat} (hk : k < n) : (k + 1 < n ∧ nxN n k = k + 1) ∨ (k + 1 = n ∧ nxN n k = 0) := by
  unfold nxN
  rcases Nat.lt_or_ge (k + 1) n with h | h
  · exact .inl ⟨h, Nat.mod_eq_of_lt h⟩
  · obtain rfl : n = k + 1 := by omega
    exact .inr ⟨rfl, Nat.mod_self _⟩
theorem pv_cases {n k : Nat} (hk : k < n) : (0 < k ∧ pvN n k = k - 1) ∨ (k = 0 ∧ pvN n k = n - 1) := by
  unfold pvN
  rcases Nat.eq_zero_or_pos k with h | h
  · subst h; right; exact ⟨rfl, by rw [Nat.zero_add]; exact Nat.mod_eq_of_lt (by omega)⟩
  · left; refine ⟨h, ?_⟩
    rw [show k + n - 1 = (k - 1) + n by omega, Nat.add_mod_right]; exact Nat.mod_eq_of_lt (by omega)
theorem convex_of {cs : List Pnt} (h3 : 3 ≤ cs.length) (h : turnsTo cs cs.length = true) : Convex cs.length (pt cs) (nxN cs.length) (pvN cs.length) where
  three := h3
  nx_lt := fun k hk => nx_lt (by omega)
  pv_lt := fun k hk => Nat.mod_lt _ (by omega)
  nx_pv := fun k hk => by
    have hp : pvN cs.length k < cs.length := Nat.mod_lt _ (by omega)
    rcases pv_cases hk with ⟨h1, e⟩ | ⟨h1, e⟩ <;> rcases nx_cases hp with ⟨h2, e2⟩ | ⟨h2, e2⟩ <;> rw [e2] <;> omega
  left := fun k i hk hi h1 h2 => by
    have h9 := allTo_iff.1 (allTo_iff.1 h k hk) i hi
    simp only [badN, decide_eq_false h1, decide_eq_false h2, Bool.not_false, Bool.true_and, Bool.not_eq_true', decide_eq_false_iff_not] at h9
    omega
  nx_ne := fun k hk => by
    have hn : nxN cs.length k < cs.length := nx_lt (by omega)
    rcases nx_cases hk with ⟨h1, e⟩ | ⟨h1, e⟩ <;> rcases pv_cases hk with ⟨h2, e2⟩ | ⟨h2, e2⟩ <;> rcases nx_cases hn with ⟨h3, e3⟩ | ⟨h3, e3⟩ <;> refine ⟨by omega, by omega, by omega, by omega⟩

/-- the cross product of side k and a point -/
def sdN (cs : List Pnt) (k : Nat) (p : Pnt) : Int := crs (pt cs k) (pt cs (nxN cs.length k)) p
/-- what the clipping answers -/
def clipB (cs : List Pnt) (p q : Pnt) : Bool :=
  allTo (fun j => !(decide (sdN cs j p < 0) && decide (sdN cs j q < 0))) cs.length && decide ((lowTo (fun k => sdN cs k p) (fun k => sdN cs k q) cs.length).1 * (highTo (fun k => sdN cs k p) (fun k => sdN cs k q) cs.length).2 ≤ (highTo (fun k => sdN cs k p) (fun k => sdN cs k q) cs.length).1 * (lowTo (fun k => sdN cs k p) (fun k => sdN cs k q) cs.length).2)
/-- a point is outside of none of the first k sides -/
def inTo (cs : List Pnt) (p : Pnt) (k : Nat) : Bool := allTo (fun j => decide (0 ≤ sdN cs j p)) k
/-- the line meets none of the first k sides -/
def noLine (cs : List Pnt) (p q : Pnt) (k : Nat) : Bool := allTo (fun j => !linesB p q (pt cs j) (pt cs (nxN cs.length j))) k
def meetB (cs : List Pnt) (p q : Pnt) : Bool := inTo cs p cs.length || (inTo cs q cs.length || !noLine cs p q cs.length)
theorem clip_meet {cs : List Pnt} {p q : Pnt} (h : shapeB cs = true) : clipB cs p q = meetB cs p q := by
  obtain ⟨⟨h3, _⟩, _, ht⟩ := shapeB_iff.1 h
  have key := (convex_of h3 ht).clip_iff (p := p) (q := q)
  rw [Bool.eq_iff_iff]
  have e1 : clipB cs p q = true ↔ Clip cs.length (fun k => sd (pt cs) (nxN cs.length) k p) (fun k => sd (pt cs) (nxN cs.length) k q) := by
    unfold clipB Clip fle
    rw [Bool.and_eq_true, decide_eq_true_eq, allTo_iff]
    constructor
    · rintro ⟨h1, h2⟩
      refine ⟨fun j hj hn => ?_, h2⟩
      have := h1 j hj
      rw [decide_eq_true (show sdN cs j p < 0 from hn.1), decide_eq_true (show sdN cs j q < 0 from hn.2)] at this
      cases this
    · rintro ⟨h1, h2⟩
      refine ⟨fun j hj => ?_, h2⟩
      rw [Bool.not_eq_true', Bool.eq_false_iff]
      intro h9
      rw [Bool.and_eq_true, decide_eq_true_eq, decide_eq_true_eq] at h9
      exact h1 j hj h9
  have e2 : ∀ r : Pnt, inTo cs r cs.length = true ↔ InP cs.length (pt cs) (nxN cs.length) r := by
    intro r
    unfold inTo InP
    rw [allTo_iff]
    exact ⟨fun h j hj => by have := h j hj; rwa [decide_eq_true_eq] at this, fun h j hj => by rw [decide_eq_true_eq]; exact h j hj⟩
  have e3 : (!noLine cs p q cs.length) = true ↔ ∃ k, k < cs.length ∧ linesB p q (pt cs k) (pt cs (nxN cs.length k)) = true := by
    unfold noLine
    rw [Bool.not_eq_true', Bool.eq_false_iff, Ne, allTo_iff]
    constructor
    · intro h9
      apply Classical.byContradiction
      intro hno
      apply h9
      intro j hj
      cases hl : linesB p q (pt cs j) (pt cs (nxN cs.length j)) with
      | false => rfl
      | true => exact absurd ⟨j, hj, hl⟩ hno
    · rintro ⟨k, hk, hl⟩ h9
      have := h9 k hk
      rw [hl] at this; cases this
  unfold meetB
  rw [e1, key, Bool.or_eq_true, Bool.or_eq_true, e2, e2, e3]
def lmCode (z : ZV) (p q : Pnt) : Int := if zoneOk z && (plcB p.x p.y && plcB q.x q.y) then 0 else 1
def lmVal (z : ZV) (p q : Pnt) : Bool := (zoneOk z && (plcB p.x p.y && plcB q.x q.y)) && meetB z.2 p q
/-- a place, or the end of a jib -/
def plcW (x y : Int) : Bool := inB x (-12000) 12000 && inB y (-12000) 12000
theorem plcW_iff {x y : Int} (h : plcW x y = true) : (-12000 ≤ x ∧ x ≤ 12000) ∧ (-12000 ≤ y ∧ y ≤ 12000) := by
  unfold plcW at h; rw [Bool.and_eq_true] at h; exact ⟨inB_true.1 h.1, inB_true.1 h.2⟩
theorem plcW_of {x y : Int} (h : plcB x y = true) : plcW x y = true := by
  have := plcB_iff h
  unfold plcW; rw [inB_true.2 (by omega), inB_true.2 (by omega)]; rfl
theorem crs_small {o a b : Pnt} (h1 : plcW o.x o.y = true) (h2 : plcW a.x a.y = true) (h3 : plcW b.x b.y = true) : -1152400000 ≤ crs o a b ∧ crs o a b ≤ 1152400000 ∧ (-24000 ≤ a.x - o.x ∧ a.x - o.x ≤ 24000) ∧ (-24000 ≤ a.y - o.y ∧ a.y - o.y ≤ 24000) ∧ (-24000 ≤ b.x - o.x ∧ b.x - o.x ≤ 24000) ∧ (-24000 ≤ b.y - o.y ∧ b.y - o.y ≤ 24000) ∧
    (-576000000 ≤ (a.x - o.x) * (b.y - o.y) ∧ (a.x - o.x) * (b.y - o.y) ≤ 576000000) ∧ (-576000000 ≤ (a.y - o.y) * (b.x - o.x) ∧ (a.y - o.y) * (b.x - o.x) ≤ 576000000) := by
  have h1 := plcW_iff h1
  have h2 := plcW_iff h2
  have h3 := plcW_iff h3
  have m : ∀ u v : Int, -24000 ≤ u ∧ u ≤ 24000 → -24000 ≤ v ∧ v ≤ 24000 → -576000000 ≤ u * v ∧ u * v ≤ 576000000 := by
    intro u v hu hv
    have a1 : 0 ≤ (24000 - u) * (24000 + v) := Int.mul_nonneg (by omega) (by omega)
    have a2 : 0 ≤ (24000 + u) * (24000 - v) := Int.mul_nonneg (by omega) (by omega)
    have a3 : 0 ≤ (24000 - u) * (24000 - v) := Int.mul_nonneg (by omega) (by omega)
    have a4 : 0 ≤ (24000 + u) * (24000 + v) := Int.mul_nonneg (by omega) (by omega)
    have e1 : (24000 - u) * (24000 + v) = 576000000 + 24000 * v - 24000 * u - u * v := by grind
    have e2 : (24000 + u) * (24000 - v) = 576000000 - 24000 * v + 24000 * u - u * v := by grind
    have e3 : (24000 - u) * (24000 - v) = 576000000 - 24000 * v - 24000 * u + u * v := by grind
    have e4 : (24000 + u) * (24000 + v) = 576000000 + 24000 * v + 24000 * u + u * v := by grind
    omega
  have m1 := m (a.x - o.x) (b.y - o.y) (by omega) (by omega)
  have m2 := m (a.y - o.y) (b.x - o.x) (by omega) (by omega)
  unfold crs
  exact ⟨by omega, by omega, by omega, by omega, by omega, by omega, m1, m2⟩
end Go.Proofs.YtdhobglhjdgboaaDoor
