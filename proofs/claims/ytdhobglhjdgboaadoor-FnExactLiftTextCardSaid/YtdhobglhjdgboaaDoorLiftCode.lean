/- liftCode and l08Code: is a list of lifts valid, and a number one of its places. -/
import Derived.Test.YtdhobglhjdgboaaDoorLifts2
namespace Go.Proofs.YtdhobglhjdgboaaDoor
open Go.RowKit
set_option linter.unusedVariables false
def lfCode (vs : List LV) (i : Int) : Int := if liftsOk vs then (if inB i 0 ((vs.length : Int) - 1) then 0 else 2) else 1
theorem lfCode_cases (vs : List LV) (i : Int) : (liftsOk vs = false ∧ lfCode vs i = 1) ∨ (liftsOk vs = true ∧ inB i 0 ((vs.length : Int) - 1) = false ∧ lfCode vs i = 2) ∨ (liftsOk vs = true ∧ inB i 0 ((vs.length : Int) - 1) = true ∧ lfCode vs i = 0) := by
  unfold lfCode
  cases liftsOk vs <;> cases inB i 0 ((vs.length : Int) - 1) <;> simp
theorem lfCode_ok {vs : List LV} {i : Int} (h : lfCode vs i = 0) : liftsOk vs = true ∧ 0 ≤ i ∧ i < (vs.length : Int) := by
  rcases lfCode_cases vs i with ⟨_, h2⟩ | ⟨_, _, h2⟩ | ⟨h1, h3, _⟩
  · omega
  · omega
  · have := inB_true.1 h3; exact ⟨h1, by omega, by omega⟩
set_option maxRecDepth 100000 in
set_option maxHeartbeats 800000 in
theorem liftCode_any (A : Option Addr) (n c : Nat) (ps : List Lift) (vs : List LV) (hv : ps.map Lift.val = vs) (i : Int) (w : World) (lo : Nat) (h : Lifts w lo w.heap.size A n ps) (hn : n ≤ 1048576) (hp : ∀ p ∈ ps, p.wf) :
    Calls Tryd.prog 65 #[.slice A n c, .int .i64 i] w fun e w' => e = .returned (.int .i64 (lfCode vs i)) ∧ Below w.heap.size w w' := by
  have HL : Hid (vs.length = n) := by show _ = _; rw [lv_len hv, h.len]
  have HC := Lib.hid (lfCode_cases vs i)
  rw [HL.out] at HC
  rcases HC.out with ⟨h1, h2⟩ | ⟨h1, h2, h3⟩ | ⟨h1, h2, h3⟩
  · have H1 := Lib.hid h1
    have H2 := Lib.hid h2
    clear h1 h2
    go_enter Tryd.func65, Tryd.ntmps65
    go_wp2_with fail
    refine (validLifts_any _ _ _ ps vs hv _ _ h hn hp).mono ?_
    rintro e w1 ⟨rfl, hb⟩
    rw [H1.out]
    go_wp2
    go_ret
    exact ⟨by rw [H2.out]; rfl, hb⟩
  · have H1 := Lib.hid h1
    have H2 := Lib.hid h2
    have H3 := Lib.hid h3
    clear h1 h2 h3
    go_enter Tryd.func65, Tryd.ntmps65
    go_wp2_with fail
    refine (validLifts_any _ _ _ ps vs hv _ _ h hn hp).mono ?_
    rintro e w1 ⟨rfl, hb⟩
    rw [H1.out]
    go_wp2_with fail
    refine (index_any _ _ (by omega) (by omega) _).mono ?_
    rintro e w2 ⟨rfl, rfl⟩
    rw [H2.out]
    go_wp2
    go_ret
    exact ⟨by rw [H3.out]; rfl, hb⟩
  · have H1 := Lib.hid h1
    have H2 := Lib.hid h2
    have H3 := Lib.hid h3
    clear h1 h2 h3
    go_enter Tryd.func65, Tryd.ntmps65
    go_wp2_with fail
    refine (validLifts_any _ _ _ ps vs hv _ _ h hn hp).mono ?_
    rintro e w1 ⟨rfl, hb⟩
    rw [H1.out]
    go_wp2_with fail
    refine (index_any _ _ (by omega) (by omega) _).mono ?_
    rintro e w2 ⟨rfl, rfl⟩
    rw [H2.out]
    go_wp2
    go_ret
    exact ⟨by rw [H3.out]; rfl, hb⟩
set_option maxRecDepth 100000 in
set_option maxHeartbeats 800000 in
theorem l08Code_any (A : Option Addr) (n c : Nat) (ps : List Lift) (vs : List LV) (hv : ps.map Lift.val = vs) (i : Int) (w : World) (lo : Nat) (h : Lifts w lo w.heap.size A n ps) (hn : n ≤ 1048576) (hc : n ≤ c) (hc2 : c ≤ 1048576) (hp : ∀ p ∈ ps, p.wf) :
    Calls Tryd.prog 62 #[.slice A n c, .int .i64 i] w fun e w' => e = .returned (.int .i64 (lfCode vs i)) ∧ Below w.heap.size w w' := by
  have HL : Hid (vs.length = n) := by show _ = _; rw [lv_len hv, h.len]
  have HC := Lib.hid (lfCode_cases vs i)
  rw [HL.out] at HC
  rcases HC.out with ⟨h1, h2⟩ | ⟨h1, h2, h3⟩ | ⟨h1, h2, h3⟩
  · have H1 := Lib.hid h1
    have H2 := Lib.hid h2
    clear h1 h2
    go_enter Tryd.func62, Tryd.ntmps62
    go_wp2_with fail
    refine (l08Ok_any _ _ _ ps vs hv _ _ h hn hc hc2 hp).mono ?_
    rintro e w1 ⟨rfl, hb⟩
    rw [H1.out]
    go_wp2
    go_ret
    exact ⟨by rw [H2.out]; rfl, hb⟩
  · have H1 := Lib.hid h1
    have H2 := Lib.hid h2
    have H3 := Lib.hid h3
    clear h1 h2 h3
    go_enter Tryd.func62, Tryd.ntmps62
    go_wp2_with fail
    refine (l08Ok_any _ _ _ ps vs hv _ _ h hn hc hc2 hp).mono ?_
    rintro e w1 ⟨rfl, hb⟩
    rw [H1.out]
    go_wp2_with fail
    refine (l00In_any _ _ _ _).mono ?_
    rintro e w2 ⟨rfl, rfl⟩
    rw [H2.out]
    go_wp2
    go_ret
    exact ⟨by rw [H3.out]; rfl, hb⟩
  · have H1 := Lib.hid h1
    have H2 := Lib.hid h2
    have H3 := Lib.hid h3
    clear h1 h2 h3
    go_enter Tryd.func62, Tryd.ntmps62
    go_wp2_with fail
    refine (l08Ok_any _ _ _ ps vs hv _ _ h hn hc hc2 hp).mono ?_
    rintro e w1 ⟨rfl, hb⟩
    rw [H1.out]
    go_wp2_with fail
    refine (l00In_any _ _ _ _).mono ?_
    rintro e w2 ⟨rfl, rfl⟩
    rw [H2.out]
    go_wp2
    go_ret
    exact ⟨by rw [H3.out]; rfl, hb⟩
end Go.Proofs.YtdhobglhjdgboaaDoor
