/- ReadyLifts, of the program and of the reference: both hand back rdXs and rdCode. -/
import Derived.Test.YtglnbopmdncibaaReady
namespace Go.Proofs.Ytglnbopmdncibaa
open Go.RowKit
set_option linter.unusedVariables false

theorem pow_bd {n : Nat} (h : n ≤ 61) : (1 : Int) ≤ 2 ^ n ∧ (2 : Int) ^ n ≤ 2305843009213693952 := by
  have h1 : (2 : Nat) ^ n ≤ 2 ^ 61 := Nat.pow_le_pow_right (by omega) h
  have h2 : 1 ≤ (2 : Nat) ^ n := Nat.one_le_two_pow
  have e : (2 : Int) ^ n = ((2 ^ n : Nat) : Int) := by push_cast; rfl
  rw [e]; constructor <;> omega
def rdXs (vs : List LV) (m : Int) : List Int := if liftsOk vs then (if inB m 0 (2 ^ vs.length - 1) then rdTo vs m vs.length else []) else []
def rdCode (vs : List LV) (m : Int) : Int := if liftsOk vs then (if inB m 0 (2 ^ vs.length - 1) then 0 else 2) else 1
theorem rdXs_len (vs : List LV) (m : Int) : (rdXs vs m).length ≤ vs.length := by
  unfold rdXs; split
  · split
    · exact rdTo_len _ _ _
    · simp
  · simp
theorem RetL.rets {α : Type} {c : α → List Value} {k : Nat} {e : TypeId} {xs : List α} {code : Int} {w w1 w' : World} {A : Option Addr} {cap : Nat} (ho : Own c k w' w1.heap.size w'.heap.size e A xs.length xs) (hb1 : Below w.heap.size w w1) (hb : Below w1.heap.size w1 w') : RetS c k e xs code w (.returned (.tuple #[.slice A xs.length cap, .int .i64 code])) w' :=
  ⟨A, cap, rfl, ho.wide hb1.size (Nat.le_refl _), bel2 hb1 hb⟩

set_option maxHeartbeats 800000 in
theorem readyLifts_any (A : Option Addr) (n c : Nat) (ps : List Lift) (vs : List LV) (hv : ps.map Lift.val = vs) (m : Int) (w : World) (lo : Nat) (h : Lifts w lo w.heap.size A n ps) (hn : n ≤ 1048576) (hp : ∀ p ∈ ps, p.wf) :
    Calls Try.prog 48 #[.slice A n c, .int .i64 m] w (RetS ic 1 2 (rdXs vs m) (rdCode vs m) w) := by
  have HL : Hid (vs.length = n) := by show _ = _; rw [lv_len hv, h.len]
  cases h1 : liftsOk vs
  · have H : Hid (rdXs vs m = [] ∧ rdCode vs m = 1) := by show _ ∧ _; unfold rdXs rdCode; rw [h1]; exact ⟨rfl, rfl⟩
    go_enter Try.func48, Try.ntmps48
    go_wp2_with fail
    refine (validLifts_any _ _ _ ps vs hv _ _ h hn hp).mono ?_
    rintro e w1 ⟨rfl, hb⟩
    go_wp2
    go_ret2
    rw [H.out.1, H.out.2]; exact RetS.nil hb
  · have H1 := Lib.hid h1
    have hn10 : n ≤ 10 := by have := liftsOk_len h1; rw [HL.out] at this; exact this
    have hpb := pow_bd (n := n) (by omega)
    have HPB : Hid ((2 : Int) ^ n ≤ 1024) := by
      show _ ≤ _
      have h2 : (2 : Nat) ^ n ≤ 2 ^ 10 := Nat.pow_le_pow_right (by omega) hn10
      have e : (2 : Int) ^ n = ((2 ^ n : Nat) : Int) := by push_cast; rfl
      rw [e]; omega
    cases h2 : inB m 0 (2 ^ n - 1)
    · have H : Hid (rdXs vs m = [] ∧ rdCode vs m = 2) := by show _ ∧ _; unfold rdXs rdCode; rw [HL.out, h1, h2]; exact ⟨rfl, rfl⟩
      go_enter Try.func48, Try.ntmps48
      go_wp2_with fail
      refine (validLifts_any _ _ _ ps vs hv _ _ h hn hp).mono ?_
      rintro e w1 ⟨rfl, hb⟩
      go_wp2_with fail
      refine (within_any _ _ _ _).mono ?_
      rintro _ _ ⟨rfl, rfl⟩
      go_wp2
      go_ret2
      rw [H.out.1, H.out.2]; exact RetS.nil hb
    · have H : Hid (rdXs vs m = rdTo vs m n ∧ rdCode vs m = 0) := by show _ ∧ _; unfold rdXs rdCode; rw [HL.out, h1, h2]; exact ⟨rfl, rfl⟩
      have hmb := inB_true.1 h2
      go_enter Try.func48, Try.ntmps48
      go_wp2_with fail
      refine (validLifts_any _ _ _ ps vs hv _ _ h hn hp).mono ?_
      rintro e w1 ⟨rfl, hb⟩
      go_wp2_with fail
      refine (within_any _ _ _ _).mono ?_
      rintro _ _ ⟨rfl, rfl⟩
      go_wp2_with fail
      refine (ready_any _ _ _ ps vs hv m _ lo ((h.below hb).more hb.size) (by omega) (fits_of H1.out) hmb.1 (by have := HPB.out; omega) (fun p hpp => (hp p hpp).n)).mono ?_
      rintro _ w2 ⟨A2, cp, rfl, ho, hb2⟩
      go_wp2
      go_ret2
      rw [H.out.1, H.out.2]; exact RetL.rets ho hb hb2

set_option maxHeartbeats 800000 in
theorem specReadyLifts_any (A : Option Addr) (n c : Nat) (ps : List Lift) (vs : List LV) (hv : ps.map Lift.val = vs) (m : Int) (w : World) (lo : Nat) (h : Lifts w lo w.heap.size A n ps) (hn : n ≤ 1048576) (hc : n ≤ c) (hc2 : c ≤ 1048576) (hp : ∀ p ∈ ps, p.wf) :
    Calls Try.prog 47 #[.slice A n c, .int .i64 m] w (RetS ic 1 2 (rdXs vs m) (rdCode vs m) w) := by
  have HL : Hid (vs.length = n) := by show _ = _; rw [lv_len hv, h.len]
  cases h1 : liftsOk vs
  · have H : Hid (rdXs vs m = [] ∧ rdCode vs m = 1) := by show _ ∧ _; unfold rdXs rdCode; rw [h1]; exact ⟨rfl, rfl⟩
    go_enter Try.func47, Try.ntmps47
    go_wp2_with fail
    refine (l08Ok_any _ _ _ ps vs hv _ _ h hn hc hc2 hp).mono ?_
    rintro e w1 ⟨rfl, hb⟩
    go_wp2
    go_ret2
    rw [H.out.1, H.out.2]; exact RetS.nil hb
  · have H1 := Lib.hid h1
    have hn10 : n ≤ 10 := by have := liftsOk_len h1; rw [HL.out] at this; exact this
    have hpb := pow_bd (n := n) (by omega)
    have HPB : Hid ((2 : Int) ^ n ≤ 1024) := by
      show _ ≤ _
      have h2 : (2 : Nat) ^ n ≤ 2 ^ 10 := Nat.pow_le_pow_right (by omega) hn10
      have e : (2 : Int) ^ n = ((2 ^ n : Nat) : Int) := by push_cast; rfl
      rw [e]; omega
    cases h2 : inB m 0 (2 ^ n - 1)
    · have H : Hid (rdXs vs m = [] ∧ rdCode vs m = 2) := by show _ ∧ _; unfold rdXs rdCode; rw [HL.out, h1, h2]; exact ⟨rfl, rfl⟩
      go_enter Try.func47, Try.ntmps47
      go_wp2_with fail
      refine (l08Ok_any _ _ _ ps vs hv _ _ h hn hc hc2 hp).mono ?_
      rintro e w1 ⟨rfl, hb⟩
      go_wp2_with fail
      refine (l00In_any _ _ _ _).mono ?_
      rintro _ _ ⟨rfl, rfl⟩
      go_wp2
      go_ret2
      rw [H.out.1, H.out.2]; exact RetS.nil hb
    · have H : Hid (rdXs vs m = rdTo vs m n ∧ rdCode vs m = 0) := by show _ ∧ _; unfold rdXs rdCode; rw [HL.out, h1, h2]; exact ⟨rfl, rfl⟩
      have hmb := inB_true.1 h2
      go_enter Try.func47, Try.ntmps47
      go_wp2_with fail
      refine (l08Ok_any _ _ _ ps vs hv _ _ h hn hc hc2 hp).mono ?_
      rintro e w1 ⟨rfl, hb⟩
      go_wp2_with fail
      refine (l00In_any _ _ _ _).mono ?_
      rintro _ _ ⟨rfl, rfl⟩
      go_wp2_with fail
      refine (l08Ready_any _ _ _ ps vs hv m _ lo ((h.below hb).more hb.size) (by omega) (fits_of H1.out) hmb.1 (by have := HPB.out; omega) (fun p hpp => (hp p hpp).n)).mono ?_
      rintro _ w2 ⟨A2, cp, rfl, ho, hb2⟩
      go_wp2
      go_ret2
      rw [H.out.1, H.out.2]; exact RetL.rets ho hb hb2
end Go.Proofs.Ytglnbopmdncibaa
