/- What is asked of charts: chartOk; the load at a radius: ldI. Over values; no program in sight. -/
import Derived.Test.YtencnldflnbdiaaDoorRChartStep
import Derived.Test.YtencnldflnbdiaaDoorLow
import Derived.Test.YtencnldflnbdiaaDoorFind
namespace Go.Proofs.YtencnldflnbdiaaDoor
open Go.RowKit
set_option linter.unusedVariables false

def upB (xs : List ChartStep) (i : Nat) (s : ChartStep) : Bool := match i with
  | 0 => true
  | j + 1 => match xs[j]? with | some r => decide (r.radius < s.radius) && decide (s.load ≤ r.load) | none => true
def stepAt (xs : List ChartStep) (i : Nat) : Bool := match xs[i]? with
  | some s => inB s.radius 1 1000 && (inB s.load 0 50000 && upB xs i s)
  | none => true
def chartOk (xs : List ChartStep) : Bool := allTo (stepAt xs) xs.length && inB (xs.length : Int) 1 20
theorem stepAt_of {xs : List ChartStep} {i : Nat} {s : ChartStep} (h : xs[i]? = some s) : stepAt xs i = (inB s.radius 1 1000 && (inB s.load 0 50000 && upB xs i s)) := by simp only [stepAt, h]
theorem upB_zero {xs : List ChartStep} {s : ChartStep} : upB xs 0 s = true := rfl
theorem upB_succ {xs : List ChartStep} {j : Nat} {r s : ChartStep} (h : xs[j]? = some r) : upB xs (j + 1) s = (decide (r.radius < s.radius) && decide (s.load ≤ r.load)) := by simp only [upB, h]
theorem chartOk_bad {xs : List ChartStep} {i : Nat} {s : ChartStep} (h : xs[i]? = some s) (hb : (inB s.radius 1 1000 && (inB s.load 0 50000 && upB xs i s)) = false) : chartOk xs = false := by
  unfold chartOk; rw [allTo_bad (List.getElem?_eq_some_iff.1 h).1 (by rw [stepAt_of h]; exact hb)]; rfl
theorem chartOk_end {xs : List ChartStep} {n : Nat} (hl : xs.length = n) (h : allTo (stepAt xs) n = true) : chartOk xs = inB (n : Int) 1 20 := by
  unfold chartOk; rw [hl, h]; rfl
theorem chartOk_len {xs : List ChartStep} (h : chartOk xs = true) : 1 ≤ xs.length ∧ xs.length ≤ 20 := by
  unfold chartOk at h; rw [Bool.and_eq_true] at h
  have := inB_true.1 h.2; omega
theorem chartOk_at {xs : List ChartStep} (h : chartOk xs = true) {i : Nat} {s : ChartStep} (hs : xs[i]? = some s) : (1 ≤ s.radius ∧ s.radius ≤ 1000) ∧ (0 ≤ s.load ∧ s.load ≤ 50000) := by
  unfold chartOk at h; rw [Bool.and_eq_true] at h
  have := allTo_iff.1 h.1 i (List.getElem?_eq_some_iff.1 hs).1
  rw [stepAt_of hs, Bool.and_eq_true, Bool.and_eq_true] at this
  exact ⟨inB_true.1 this.1, inB_true.1 this.2.1⟩
theorem chartOk_up {xs : List ChartStep} (h : chartOk xs = true) {i : Nat} {r s : ChartStep} (hr : xs[i]? = some r) (hs : xs[i + 1]? = some s) : r.radius < s.radius ∧ s.load ≤ r.load := by
  unfold chartOk at h; rw [Bool.and_eq_true] at h
  have := allTo_iff.1 h.1 (i + 1) (List.getElem?_eq_some_iff.1 hs).1
  rw [stepAt_of hs, Bool.and_eq_true, Bool.and_eq_true, upB_succ hr, Bool.and_eq_true] at this
  exact ⟨of_decide_eq_true this.2.2.1, of_decide_eq_true this.2.2.2⟩

def cdiv (n d : Int) : Int := (n + d - 1) / d
theorem cdiv_low {n d : Int} (hn : 0 ≤ n) (hd : 1 ≤ d) : 0 ≤ cdiv n d := Int.ediv_nonneg (by omega) (by omega)
theorem cdiv_high {n d m : Int} (hd : 1 ≤ d) (h : n ≤ m * d) : cdiv n d ≤ m := by
  unfold cdiv
  have h2 : n + d - 1 < (m + 1) * d := by rw [Int.add_mul]; omega
  have := Int.ediv_lt_of_lt_mul (by omega : 0 < d) h2
  omega
def ldBtw (a b : ChartStep) (r : Int) : Int := a.load - cdiv ((a.load - b.load) * (r - a.radius)) (b.radius - a.radius)
/-- what a load between two steps asks for -/
structure Btw (a b : ChartStep) (r : Int) : Prop where
  ra : 1 ≤ a.radius ∧ a.radius < r
  rb : r ≤ b.radius ∧ b.radius ≤ 1000
  la : b.load ≤ a.load ∧ a.load ≤ 50000
  lb : 0 ≤ b.load
theorem Btw.prod {a b : ChartStep} {r : Int} (h : Btw a b r) : 0 ≤ (a.load - b.load) * (r - a.radius) ∧ (a.load - b.load) * (r - a.radius) ≤ (a.load - b.load) * (b.radius - a.radius) ∧ (a.load - b.load) * (r - a.radius) ≤ 50000000 := by
  obtain ⟨h1, h2⟩ := h.ra; obtain ⟨h3, h4⟩ := h.rb; obtain ⟨h5, h6⟩ := h.la; have h7 := h.lb
  refine ⟨Int.mul_nonneg (by omega) (by omega), Int.mul_le_mul_of_nonneg_left (by omega) (by omega), ?_⟩
  calc (a.load - b.load) * (r - a.radius) ≤ 50000 * (r - a.radius) := Int.mul_le_mul_of_nonneg_right (by omega) (by omega)
    _ ≤ 50000 * 1000 := Int.mul_le_mul_of_nonneg_left (by omega) (by omega)
    _ = 50000000 := by decide
theorem Btw.cdiv {a b : ChartStep} {r : Int} (h : Btw a b r) : 0 ≤ cdiv ((a.load - b.load) * (r - a.radius)) (b.radius - a.radius) ∧ Go.Proofs.YtencnldflnbdiaaDoor.cdiv ((a.load - b.load) * (r - a.radius)) (b.radius - a.radius) ≤ a.load - b.load := by
  have h0 := h.prod
  obtain ⟨h1, h2⟩ := h.ra; obtain ⟨h3, h4⟩ := h.rb
  exact ⟨cdiv_low h0.1 (by omega), cdiv_high (by omega) h0.2.1⟩
theorem Btw.low {a b : ChartStep} {r : Int} (h : Btw a b r) : 0 ≤ ldBtw a b r ∧ ldBtw a b r ≤ 50000 := by
  have h0 := h.cdiv; have h1 := h.la; have h2 := h.lb
  unfold ldBtw; omega
def reachB (r : Int) (s : ChartStep) : Bool := decide (r ≤ s.radius)
def ldI (xs : List ChartStep) (r : Int) : Int := match xs.findIdx? (reachB r) with
  | none => -1
  | some 0 => match xs[0]? with | some s => s.load | none => -1
  | some (j + 1) => match xs[j]?, xs[j + 1]? with | some a, some b => ldBtw a b r | _, _ => -1
theorem ldI_cases {xs : List ChartStep} (h : chartOk xs = true) (r : Int) :
    (fIdx (reachB r) xs = -1 ∧ ldI xs r = -1) ∨
    (∃ s, xs[0]? = some s ∧ fIdx (reachB r) xs = 0 ∧ ldI xs r = s.load ∧ 0 ≤ s.load ∧ s.load ≤ 50000) ∨
    (∃ (j : Nat) (a b : ChartStep), xs[j]? = some a ∧ xs[j + 1]? = some b ∧ fIdx (reachB r) xs = ((j + 1 : Nat) : Int) ∧ Btw a b r ∧ ldI xs r = ldBtw a b r) := by
  rcases fIdx_cases (reachB r) xs with ⟨h1, h2, h3⟩ | ⟨k, x, h1, hk, hx, hq, hn, h3⟩
  · left; exact ⟨h1, by unfold ldI; rw [h3]⟩
  · right
    cases k with
    | zero =>
      left
      have hb := chartOk_at h hx
      exact ⟨x, hx, h1, by unfold ldI; rw [h3]; simp only [hx], hb.2⟩
    | succ j =>
      right
      have ha : xs[j]? = some (xs[j]'(by omega)) := List.getElem?_eq_getElem _
      have hba := chartOk_at h ha
      have hbb := chartOk_at h hx
      have hup := chartOk_up h ha hx
      have hno := noTo_iff.1 hn j (by omega) _ ha
      have hq' := of_decide_eq_true hq
      have hno' : (xs[j]'(by omega)).radius < r := by
        have := of_decide_eq_false hno; omega
      refine ⟨j, _, x, ha, hx, h1, ⟨by omega, by omega, by omega, by omega⟩, ?_⟩
      unfold ldI; rw [h3]; simp only [ha, hx]
theorem ldI_range {xs : List ChartStep} (h : chartOk xs = true) (r : Int) : -1 ≤ ldI xs r ∧ ldI xs r ≤ 50000 := by
  rcases ldI_cases h r with ⟨_, h2⟩ | ⟨s, _, _, h2, h3, h4⟩ | ⟨j, a, b, _, _, _, hb, h2⟩
  · omega
  · omega
  · have := hb.low; omega
/-- behind the last step there is no load -/
theorem ldI_far {xs : List ChartStep} (h : chartOk xs = true) {r : Int} (hr : 1000 < r) : ldI xs r = -1 := by
  rcases ldI_cases h r with ⟨_, h2⟩ | ⟨s, h1, h2, _⟩ | ⟨j, a, b, _, _, _, hb, _⟩
  · exact h2
  · rcases fIdx_cases (reachB r) xs with ⟨g1, _⟩ | ⟨k, x, g1, hk, hx, hq, _⟩
    · omega
    · have := chartOk_at h hx
      have := of_decide_eq_true hq
      omega
  · have := hb.rb; omega
def lastR (xs : List ChartStep) : Int := match xs[xs.length - 1]? with | some s => s.radius | none => 0
end Go.Proofs.YtencnldflnbdiaaDoor
