/- The faults of a shift: the program's closures and shiftFault. -/
import Derived.Test.YtdoinbnnpompiaaShifts
namespace Go.Proofs.Ytdoinbnnpompiaa
open Go.RowKit
set_option linter.unusedVariables false

def meetB (y x : Shift) : Bool := decide (y.start < x.stop) && decide (x.start < y.stop)
def twiceB (x y : Shift) : Bool := decide (y.crane = x.crane) && (decide (y.role = x.role) && meetB y x)
def restB (x y : Shift) : Bool := decide (y.person = x.person) && (decide (x.start - y.stop < 11) && decide (y.start - x.stop < 11))

theorem meets_any (y x : Shift) (w : World) :
    Calls Try.prog 196 #[.agg #[.int .i64 y.person, .int .i64 y.crane, .int .i64 y.role, .int .i64 y.start, .int .i64 y.stop], .agg #[.int .i64 x.person, .int .i64 x.crane, .int .i64 x.role, .int .i64 x.start, .int .i64 x.stop]] w fun e w' => e = .returned (.bool (meetB y x)) ∧ Below w.heap.size w w' := by
  by_cases h1 : y.start < x.stop
  · have H : Hid (meetB y x = decide (x.start < y.stop)) := by show _ = _; unfold meetB; rw [decide_eq_true h1]; rfl
    go_enter Try.func196, Try.ntmps196
    go_wp2
    go_ret
    exact ⟨by rw [H.out]; rfl, ((Below.refl _ _).alloc (Nat.le_refl _) _).alloc (by simp) _⟩
  · have H : Hid (meetB y x = false) := by show _ = _; unfold meetB; rw [decide_eq_false h1]; rfl
    go_enter Try.func196, Try.ntmps196
    go_wp2
    go_ret
    exact ⟨by rw [H.out]; rfl, ((Below.refl _ _).alloc (Nat.le_refl _) _).alloc (by simp) _⟩

/-- the box of x that the closures captured -/
def Box (w : World) (g : Nat) (x : Shift) : Prop := g < w.heap.size ∧ w.cell? ⟨g, 0, none⟩ = some (.int .i64 x.person) ∧ w.cell? ⟨g, 1, none⟩ = some (.int .i64 x.crane) ∧ w.cell? ⟨g, 2, none⟩ = some (.int .i64 x.role) ∧ w.cell? ⟨g, 3, none⟩ = some (.int .i64 x.start) ∧ w.cell? ⟨g, 4, none⟩ = some (.int .i64 x.stop)
theorem Box.below {w w' : World} {g : Nat} {x : Shift} (h : Box w g x) (hb : Below w.heap.size w w') : Box w' g x := by
  obtain ⟨h0, h1, h2, h3, h4, h5⟩ := h
  exact ⟨by have := hb.size; omega, (hb.cell h0).trans h1, (hb.cell h0).trans h2, (hb.cell h0).trans h3, (hb.cell h0).trans h4, (hb.cell h0).trans h5⟩

set_option maxHeartbeats 800000 in
theorem twice_any (x y : Shift) (g : Nat) (w : World) (hx : Box w g x) :
    Calls Try.prog 195 #[.agg #[.int .i64 y.person, .int .i64 y.crane, .int .i64 y.role, .int .i64 y.start, .int .i64 y.stop], .pointer (some ⟨g, 0, none⟩)] w fun e w' => e = .returned (.bool (twiceB x y)) ∧ Below w.heap.size w w' := by
  obtain ⟨h0, h1, h2, h3, h4, h5⟩ := hx.below ((Below.refl _ _).alloc (Nat.le_refl _) (.cells #[.int .i64 y.person, .int .i64 y.crane, .int .i64 y.role, .int .i64 y.start, .int .i64 y.stop] 79))
  clear hx h0
  by_cases e1 : y.crane = x.crane
  · have b1 : (y.crane == x.crane) = true := beq_iff_eq.2 e1
    by_cases e2 : y.role = x.role
    · have b2 : (y.role == x.role) = true := beq_iff_eq.2 e2
      have H : Hid (twiceB x y = meetB y x) := by show _ = _; unfold twiceB; rw [decide_eq_true e1, decide_eq_true e2]; rfl
      clear e1 e2
      go_enter Try.func195, Try.ntmps195
      go_wp2_with (go_at_call 196; refine (meets_any y x _).mono ?_; rintro e w1 ⟨rfl, hb⟩)
      go_ret
      exact ⟨by rw [H.out]; rfl, ((Below.refl _ _).alloc (Nat.le_refl _) _).trans (hb.mono (by simp))⟩
    · have b2 : (y.role == x.role) = false := beq_eq_false_iff_ne.2 e2
      have H : Hid (twiceB x y = false) := by show _ = _; unfold twiceB; rw [decide_eq_false e2]; simp
      clear e1 e2
      go_enter Try.func195, Try.ntmps195
      go_wp2
      go_ret
      exact ⟨by rw [H.out]; rfl, ((Below.refl _ _).alloc (Nat.le_refl _) _)⟩
  · have b1 : (y.crane == x.crane) = false := beq_eq_false_iff_ne.2 e1
    have H : Hid (twiceB x y = false) := by show _ = _; unfold twiceB; rw [decide_eq_false e1]; rfl
    clear e1
    go_enter Try.func195, Try.ntmps195
    go_wp2
    go_ret
    exact ⟨by rw [H.out]; rfl, ((Below.refl _ _).alloc (Nat.le_refl _) _)⟩

set_option maxHeartbeats 800000 in
theorem rest_any (x y : Shift) (g : Nat) (w : World) (hx : Box w g x) (fx : fOk x = true) (fy : fOk y = true) :
    Calls Try.prog 197 #[.agg #[.int .i64 y.person, .int .i64 y.crane, .int .i64 y.role, .int .i64 y.start, .int .i64 y.stop], .pointer (some ⟨g, 0, none⟩)] w fun e w' => e = .returned (.bool (restB x y)) ∧ Below w.heap.size w w' := by
  obtain ⟨h0, h1, h2, h3, h4, h5⟩ := hx.below ((Below.refl _ _).alloc (Nat.le_refl _) (.cells #[.int .i64 y.person, .int .i64 y.crane, .int .i64 y.role, .int .i64 y.start, .int .i64 y.stop] 79))
  obtain ⟨_, _, _, x4, x5⟩ := fOk_iff fx
  obtain ⟨_, _, _, y4, y5⟩ := fOk_iff fy
  clear hx h0 fx fy
  by_cases e1 : y.person = x.person
  · have b1 : (y.person == x.person) = true := beq_iff_eq.2 e1
    by_cases e2 : x.start - y.stop < 11
    · have H : Hid (restB x y = decide (y.start - x.stop < 11)) := by show _ = _; unfold restB; rw [decide_eq_true e1, decide_eq_true e2]; rfl
      clear e1
      go_enter Try.func197, Try.ntmps197
      go_wp2
      go_ret
      exact ⟨by rw [H.out]; rfl, ((Below.refl _ _).alloc (Nat.le_refl _) _)⟩
    · have H : Hid (restB x y = false) := by show _ = _; unfold restB; rw [decide_eq_false e2]; simp
      clear e1
      go_enter Try.func197, Try.ntmps197
      go_wp2
      go_ret
      exact ⟨by rw [H.out]; rfl, ((Below.refl _ _).alloc (Nat.le_refl _) _)⟩
  · have b1 : (y.person == x.person) = false := beq_eq_false_iff_ne.2 e1
    have H : Hid (restB x y = false) := by show _ = _; unfold restB; rw [decide_eq_false e1]; rfl
    clear e1
    go_enter Try.func197, Try.ntmps197
    go_wp2
    go_ret
    exact ⟨by rw [H.out]; rfl, ((Below.refl _ _).alloc (Nat.le_refl _) _)⟩


set_option maxHeartbeats 800000 in
theorem indexTwice_any (A : Option Addr) (n c : Nat) (ps : List Shift) (w : World) (lo : Nat) (h : Arr Shift.cs 5 w lo w.heap.size A n ps) (hn : n ≤ 9223372036854775807) (q : Shift → Bool) (g : Addr)
    (hf : ∀ (p : Shift) (W : World), p ∈ ps → Below w.heap.size w W → Calls Try.prog 195 #[.agg #[.int .i64 p.person, .int .i64 p.crane, .int .i64 p.role, .int .i64 p.start, .int .i64 p.stop], .pointer (some g)] W fun e W' => e = .returned (.bool (q p)) ∧ Below W.heap.size W W') :
    Calls Try.prog 241 #[.slice A n c, .func (.func 195) #[] #[.pointer (some g)]] w fun e w' => e = .returned (.int .i64 (fIdx q ps)) ∧ Below w.heap.size w w' := by
  have HF := Lib.hid hf
  clear hf
  go_enter Try.func241, Try.ntmps241
  go_wp2
  go_loopw [8] (fun i wr => ∃ k : Nat, k ≤ n ∧ i = .int .i64 k ∧ noTo q ps k = true ∧ Below w.heap.size w wr) (fun i _ => n - (intOf i).toNat)
  case atStart => exact ⟨0, Nat.zero_le _, rfl, rfl, Below.refl _ _⟩
  case round =>
    obtain ⟨k, hk, rfl, hno, hb⟩ := hrel
    have HN := Lib.hid hno
    clear hno
    by_cases hlt : k < n
    · obtain ⟨b, off, p, rfl, hx, _, hbl, c0, c1, c2, c3, c4⟩ := Shift.at (h.below hb) hlt
      have HX := Lib.hid hx
      clear hx
      cases hq : q p
      · have HQ := Lib.hid hq
        go_wp2_with (go_at_call 195; refine (HF.out p _ (List.mem_of_getElem? HX.out) hb).mono ?_; rintro e w1 ⟨rfl, hb1⟩)
        go_roundw
        case rel => exact ⟨k + 1, by omega, by go_num, noTo_step HN.out HX.out HQ.out, hb.trans (hb1.mono hb.size)⟩
        case measure => simp [intOf]; omega
      · have HQ := Lib.hid hq
        go_wp2_with (go_at_call 195; refine (HF.out p _ (List.mem_of_getElem? HX.out) hb).mono ?_; rintro e w1 ⟨rfl, hb1⟩)
        go_ret
        exact ⟨by rw [fIdx_hit HN.out HX.out HQ.out]; rfl, hb.trans (hb1.mono hb.size)⟩
    · obtain rfl : k = n := by omega
      have HE : Hid (fIdx q ps = -1) := fIdx_none (by rw [h.1]; exact HN.out)
      go_wp2
      go_ret
      exact ⟨by rw [HE.out]; rfl, hb⟩

theorem containsTwice_any (A : Option Addr) (n c : Nat) (ps : List Shift) (w : World) (lo : Nat) (h : Arr Shift.cs 5 w lo w.heap.size A n ps) (hn : n ≤ 9223372036854775807) (q : Shift → Bool) (g : Addr)
    (hf : ∀ (p : Shift) (W : World), p ∈ ps → Below w.heap.size w W → Calls Try.prog 195 #[.agg #[.int .i64 p.person, .int .i64 p.crane, .int .i64 p.role, .int .i64 p.start, .int .i64 p.stop], .pointer (some g)] W fun e W' => e = .returned (.bool (q p)) ∧ Below W.heap.size W W') :
    Calls Try.prog 194 #[.slice A n c, .func (.func 195) #[] #[.pointer (some g)]] w fun e w' => e = .returned (.bool (ps.any q)) ∧ Below w.heap.size w w' := by
  have HF := Lib.hid hf
  clear hf
  have HA : Hid (ps.any q = decide (0 ≤ fIdx q ps)) := any_fIdx q ps
  go_enter Try.func194, Try.ntmps194
  go_wp2_with fail
  refine (indexTwice_any A n c ps _ lo h hn q g HF.out).mono ?_
  rintro e w1 ⟨rfl, hb⟩
  go_wp2
  go_ret
  exact ⟨by rw [HA.out]; rfl, hb⟩


set_option maxHeartbeats 800000 in
theorem indexRest_any (A : Option Addr) (n c : Nat) (ps : List Shift) (w : World) (lo : Nat) (h : Arr Shift.cs 5 w lo w.heap.size A n ps) (hn : n ≤ 9223372036854775807) (q : Shift → Bool) (g : Addr)
    (hf : ∀ (p : Shift) (W : World), p ∈ ps → Below w.heap.size w W → Calls Try.prog 197 #[.agg #[.int .i64 p.person, .int .i64 p.crane, .int .i64 p.role, .int .i64 p.start, .int .i64 p.stop], .pointer (some g)] W fun e W' => e = .returned (.bool (q p)) ∧ Below W.heap.size W W') :
    Calls Try.prog 241 #[.slice A n c, .func (.func 197) #[] #[.pointer (some g)]] w fun e w' => e = .returned (.int .i64 (fIdx q ps)) ∧ Below w.heap.size w w' := by
  have HF := Lib.hid hf
  clear hf
  go_enter Try.func241, Try.ntmps241
  go_wp2
  go_loopw [8] (fun i wr => ∃ k : Nat, k ≤ n ∧ i = .int .i64 k ∧ noTo q ps k = true ∧ Below w.heap.size w wr) (fun i _ => n - (intOf i).toNat)
  case atStart => exact ⟨0, Nat.zero_le _, rfl, rfl, Below.refl _ _⟩
  case round =>
    obtain ⟨k, hk, rfl, hno, hb⟩ := hrel
    have HN := Lib.hid hno
    clear hno
    by_cases hlt : k < n
    · obtain ⟨b, off, p, rfl, hx, _, hbl, c0, c1, c2, c3, c4⟩ := Shift.at (h.below hb) hlt
      have HX := Lib.hid hx
      clear hx
      cases hq : q p
      · have HQ := Lib.hid hq
        go_wp2_with (go_at_call 197; refine (HF.out p _ (List.mem_of_getElem? HX.out) hb).mono ?_; rintro e w1 ⟨rfl, hb1⟩)
        go_roundw
        case rel => exact ⟨k + 1, by omega, by go_num, noTo_step HN.out HX.out HQ.out, hb.trans (hb1.mono hb.size)⟩
        case measure => simp [intOf]; omega
      · have HQ := Lib.hid hq
        go_wp2_with (go_at_call 197; refine (HF.out p _ (List.mem_of_getElem? HX.out) hb).mono ?_; rintro e w1 ⟨rfl, hb1⟩)
        go_ret
        exact ⟨by rw [fIdx_hit HN.out HX.out HQ.out]; rfl, hb.trans (hb1.mono hb.size)⟩
    · obtain rfl : k = n := by omega
      have HE : Hid (fIdx q ps = -1) := fIdx_none (by rw [h.1]; exact HN.out)
      go_wp2
      go_ret
      exact ⟨by rw [HE.out]; rfl, hb⟩

theorem containsRest_any (A : Option Addr) (n c : Nat) (ps : List Shift) (w : World) (lo : Nat) (h : Arr Shift.cs 5 w lo w.heap.size A n ps) (hn : n ≤ 9223372036854775807) (q : Shift → Bool) (g : Addr)
    (hf : ∀ (p : Shift) (W : World), p ∈ ps → Below w.heap.size w W → Calls Try.prog 197 #[.agg #[.int .i64 p.person, .int .i64 p.crane, .int .i64 p.role, .int .i64 p.start, .int .i64 p.stop], .pointer (some g)] W fun e W' => e = .returned (.bool (q p)) ∧ Below W.heap.size W W') :
    Calls Try.prog 194 #[.slice A n c, .func (.func 197) #[] #[.pointer (some g)]] w fun e w' => e = .returned (.bool (ps.any q)) ∧ Below w.heap.size w w' := by
  have HF := Lib.hid hf
  clear hf
  have HA : Hid (ps.any q = decide (0 ≤ fIdx q ps)) := any_fIdx q ps
  go_enter Try.func194, Try.ntmps194
  go_wp2_with fail
  refine (indexRest_any A n c ps _ lo h hn q g HF.out).mono ?_
  rintro e w1 ⟨rfl, hb⟩
  go_wp2
  go_ret
  exact ⟨by rw [HA.out]; rfl, hb⟩

end Go.Proofs.Ytdoinbnnpompiaa
