/- IsName, of the program and of the reference: both say nmOk, for every string. -/
import Derived.Test.YtkegncanmfmmmaaDoorProg
import Derived.Test.YtkegncanmfmmmaaDoorWords2
import Derived.Deep.QuietTactic
import Derived.BigQuiet
import Derived.PlainAid
import Derived.KernelRfl
namespace Go.Proofs.YtkegncanmfmmmaaDoor
open Go.RowKit
set_option linter.unusedVariables false

/-- a byte that may stand at place i of a name -/
def okc (i : Nat) (b : Int) : Bool := (decide (97 ≤ b) && decide (b ≤ 122)) || (decide (i ≠ 0) && (decide (b = 45) || (decide (48 ≤ b) && decide (b ≤ 57))))
def nmTo (s : ByteArray) (k : Nat) : Bool := (List.range k).all fun i => okc i (PlainAid.bt s i)
def nmOk (s : ByteArray) : Bool := nmTo s s.size && (decide (1 ≤ s.size) && decide (s.size ≤ 12))
theorem nmTo_succ (s : ByteArray) (k : Nat) : nmTo s (k + 1) = (nmTo s k && okc k (PlainAid.bt s k)) := by
  simp [nmTo, List.range_succ]
theorem nmTo_bad (s : ByteArray) (k n : Nat) (hk : k < n) (h : okc k (PlainAid.bt s k) = false) : nmTo s n = false := by
  rw [Bool.eq_false_iff]; intro h2
  simp only [nmTo, List.all_eq_true, List.mem_range] at h2
  rw [h2 k hk] at h; cases h
theorem nmOk_bad (s : ByteArray) (k : Nat) (hk : k < s.size) (h : okc k (PlainAid.bt s k) = false) : nmOk s = false := by
  unfold nmOk; rw [nmTo_bad s k _ hk h]; rfl

theorem okc_cases (k : Nat) (b : Int) :
    (97 ≤ b ∧ b ≤ 122 ∧ okc k b = true) ∨ (k = 0 ∧ b < 97 ∧ okc k b = false) ∨ (k = 0 ∧ 97 ≤ b ∧ 122 < b ∧ okc k b = false) ∨ (k ≠ 0 ∧ b < 97 ∧ b = 45 ∧ okc k b = true) ∨
    (k ≠ 0 ∧ b < 97 ∧ b ≠ 45 ∧ 48 ≤ b ∧ b ≤ 57 ∧ okc k b = true) ∨ (k ≠ 0 ∧ b < 97 ∧ b ≠ 45 ∧ b < 48 ∧ okc k b = false) ∨ (k ≠ 0 ∧ b < 97 ∧ b ≠ 45 ∧ 48 ≤ b ∧ 57 < b ∧ okc k b = false) ∨ (k ≠ 0 ∧ 97 ≤ b ∧ 122 < b ∧ b ≠ 45 ∧ 48 ≤ b ∧ 57 < b ∧ okc k b = false) := by
  by_cases a1 : 97 ≤ b
  · by_cases a2 : b ≤ 122
    · exact .inl ⟨a1, a2, by simp [okc, a1, a2]⟩
    · have h45 : b ≠ 45 := by omega
      have h57 : ¬ b ≤ 57 := by omega
      by_cases k0 : k = 0
      · exact .inr (.inr (.inl ⟨k0, a1, by omega, by simp [okc, k0, a2]⟩))
      · exact .inr (.inr (.inr (.inr (.inr (.inr (.inr ⟨k0, a1, by omega, h45, by omega, by omega, by simp [okc, a2, h45, h57]⟩))))))
  · by_cases k0 : k = 0
    · exact .inr (.inl ⟨k0, by omega, by simp [okc, k0, a1]⟩)
    · by_cases h45 : b = 45
      · exact .inr (.inr (.inr (.inl ⟨k0, by omega, h45, by simp [okc, k0, h45]⟩)))
      · by_cases h48 : 48 ≤ b
        · by_cases h57 : b ≤ 57
          · exact .inr (.inr (.inr (.inr (.inl ⟨k0, by omega, h45, h48, h57, by simp [okc, k0, h48, h57]⟩))))
          · exact .inr (.inr (.inr (.inr (.inr (.inr (.inl ⟨k0, by omega, h45, h48, by omega, by simp [okc, a1, h45, h57]⟩))))))
        · exact .inr (.inr (.inr (.inr (.inr (.inl ⟨k0, by omega, h45, by omega, by simp [okc, a1, h45, h48]⟩)))))

set_option maxHeartbeats 1600000 in
theorem isName_any (s : ByteArray) (w : World) (hs : s.size ≤ 9223372036854775807) :
    Calls Tryd.prog 109 #[.string s] w fun e w' => e = .returned (.bool (nmOk s)) ∧ w = w' := by
  have hbt := PlainAid.get_bt s
  go_enter Tryd.func109, Tryd.ntmps109
  go_wp2
  go_loop [8] (fun i => ∃ k : Nat, k ≤ s.size ∧ i = .int .i64 k ∧ nmTo s k = true) (fun i => s.size - (intOf i).toNat)
  case atStart => exact ⟨0, Nat.zero_le _, rfl, rfl⟩
  case round =>
    obtain ⟨k, hk, rfl, hT⟩ := hrel
    have HT := Lib.hid hT
    clear hT
    by_cases hlt : k < s.size
    · have hlt' : (k : Int) < (s.size : Int) := by omega
      have HS := Lib.hid (nmTo_succ s k)
      have HB := fun h => Lib.hid (nmOk_bad s k hlt h)
      rcases okc_cases k (PlainAid.bt s k) with ⟨l1, l2, l3⟩ | ⟨l0, l1, l3⟩ | ⟨l0, l1, l2, l3⟩ | ⟨l0, l1, l2, l3⟩ | ⟨l0, l1, l2, l4, l5, l3⟩ | ⟨l0, l1, l2, l4, l3⟩ | ⟨l0, l1, l2, l4, l5, l3⟩ | ⟨l0, l1, l6, l2, l4, l5, l3⟩
      · have L3 := Lib.hid l3; clear l3
        go_wp2
        go_round
        case rel => exact ⟨k + 1, by omega, by go_num, by rw [HS.out, HT.out, L3.out]; rfl⟩
        case measure => simp [intOf]; omega
      · have e0 : ((k : Int) == 0) = true := beq_iff_eq.2 (by omega)
        have HB' := HB l3
        clear l3 HB l0
        go_wp2
        go_ret
        exact ⟨by rw [HB'.out]; rfl, rfl⟩
      · have e0 : ((k : Int) == 0) = true := beq_iff_eq.2 (by omega)
        have e2 : decide (PlainAid.bt s k ≤ 122) = false := decide_eq_false (by omega)
        have HB' := HB l3
        clear l3 HB l0
        go_wp2
        go_ret
        exact ⟨by rw [HB'.out]; rfl, rfl⟩
      · have e0 : ((k : Int) == 0) = false := beq_eq_false_iff_ne.2 (by omega)
        have e1 : (PlainAid.bt s k != 45) = false := by rw [l2]; rfl
        have L3 := Lib.hid l3
        clear l3 HB l0 l2
        go_wp2
        go_round
        case rel => exact ⟨k + 1, by omega, by go_num, by rw [HS.out, HT.out, L3.out]; rfl⟩
        case measure => simp [intOf]; omega
      · have e0 : ((k : Int) == 0) = false := beq_eq_false_iff_ne.2 (by omega)
        have e1 : (PlainAid.bt s k != 45) = true := by rw [bne_iff_ne]; exact l2
        have L3 := Lib.hid l3
        clear l3 HB l0 l2
        go_wp2
        go_round
        case rel => exact ⟨k + 1, by omega, by go_num, by rw [HS.out, HT.out, L3.out]; rfl⟩
        case measure => simp [intOf]; omega
      · have e0 : ((k : Int) == 0) = false := beq_eq_false_iff_ne.2 (by omega)
        have e1 : (PlainAid.bt s k != 45) = true := by rw [bne_iff_ne]; exact l2
        have HB' := HB l3
        clear l3 HB l0 l2
        go_wp2
        go_ret
        exact ⟨by rw [HB'.out]; rfl, rfl⟩
      · have e0 : ((k : Int) == 0) = false := beq_eq_false_iff_ne.2 (by omega)
        have e1 : (PlainAid.bt s k != 45) = true := by rw [bne_iff_ne]; exact l2
        have HB' := HB l3
        clear l3 HB l0 l2
        go_wp2
        go_ret
        exact ⟨by rw [HB'.out]; rfl, rfl⟩
      · have e2 : decide (PlainAid.bt s k ≤ 122) = false := decide_eq_false (by omega)
        have e0 : ((k : Int) == 0) = false := beq_eq_false_iff_ne.2 (by omega)
        have e1 : (PlainAid.bt s k != 45) = true := by rw [bne_iff_ne]; exact l2
        have HB' := HB l3
        clear l3 HB l0 l2
        go_wp2
        go_ret
        exact ⟨by rw [HB'.out]; rfl, rfl⟩
    · obtain rfl : k = s.size := by omega
      clear hbt
      have h3 : nmOk s = (decide ((1 : Int) ≤ (s.size : Int)) && decide ((s.size : Int) ≤ 12)) := by
        unfold nmOk; rw [HT.out]
        rw [show decide (1 ≤ s.size) = decide ((1 : Int) ≤ (s.size : Int)) from by simp; omega, show decide (s.size ≤ 12) = decide ((s.size : Int) ≤ 12) from by simp; omega]; rfl
      have H3 := Lib.hid h3
      clear h3
      by_cases h1 : (1 : Int) ≤ (s.size : Int)
      · by_cases h2 : (s.size : Int) ≤ 12
        · go_wp2
          go_ret
          exact ⟨by rw [H3.out]; simp; omega, rfl⟩
        · go_wp2
          go_ret
          exact ⟨by rw [H3.out]; simp; omega, rfl⟩
      · go_wp2
        go_ret
        exact ⟨by rw [H3.out]; simp; omega, rfl⟩

theorem toList_size (s : ByteArray) : s.toList.length = s.size := by
  rw [ByteArray.toList_eq]; simp
def smallB (c : Int) : Bool := decide (97 ≤ c) && decide (c ≤ 122)
def digitB (c : Int) : Bool := decide (48 ≤ c) && decide (c ≤ 57)
theorem small_any (c : Int) (w : World) : Calls Tryd.prog 125 #[.int .u8 c] w fun e w' => e = .returned (.bool (smallB c)) ∧ w = w' := by
  by_cases h1 : 97 ≤ c <;> by_cases h2 : c ≤ 122
  all_goals
    go_enter Tryd.func125, Tryd.ntmps125
    go_wp2
    go_ret
    exact ⟨by simp [smallB, h1, h2], rfl⟩
theorem digit_any (c : Int) (w : World) : Calls Tryd.prog 101 #[.int .u8 c] w fun e w' => e = .returned (.bool (digitB c)) ∧ w = w' := by
  by_cases h1 : 48 ≤ c <;> by_cases h2 : c ≤ 57
  all_goals
    go_enter Tryd.func101, Tryd.ntmps101
    go_wp2
    go_ret
    exact ⟨by simp [digitB, h1, h2], rfl⟩

/-- what the reference's loop asks of a byte: more than okc at place 0 alone -/
def okd (b : Int) : Bool := smallB b || (digitB b || decide (b = 45))
theorem okc_of (k : Nat) (b : Int) (hk : k ≠ 0) : okc k b = okd b := by
  simp only [okc, okd, smallB, digitB, decide_eq_true hk]
  cases decide (97 ≤ b) <;> cases decide (b ≤ 122) <;> cases decide (48 ≤ b) <;> cases decide (b ≤ 57) <;> cases decide (b = 45) <;> rfl
theorem okc_zero (b : Int) : okc 0 b = smallB b := by simp [okc, smallB]
theorem okd_small (b : Int) (h : smallB b = true) : okd b = true := by simp [okd, h]
def ndTo (s : ByteArray) (k : Nat) : Bool := (List.range k).all fun i => okd (PlainAid.bt s i)
theorem ndTo_succ (s : ByteArray) (k : Nat) : ndTo s (k + 1) = (ndTo s k && okd (PlainAid.bt s k)) := by simp [ndTo, List.range_succ]
theorem nm_nd (s : ByteArray) (k : Nat) : nmTo s (k + 1) = (smallB (PlainAid.bt s 0) && ndTo s (k + 1)) := by
  induction k with
  | zero =>
    rw [nmTo_succ, ndTo_succ, okc_zero]
    cases h : smallB (PlainAid.bt s 0)
    · simp
    · simp [okd_small _ h, nmTo, ndTo]
  | succ k ih => rw [nmTo_succ, ih, ndTo_succ s (k + 1), okc_of _ _ (by omega), Bool.and_assoc]
theorem nd_bad (s : ByteArray) (k : Nat) (hk : k < s.size) (h : okd (PlainAid.bt s k) = false) : nmOk s = false := by
  have h2 : ndTo s s.size = false := by
    rw [Bool.eq_false_iff]; intro h2
    simp only [ndTo, List.all_eq_true, List.mem_range] at h2
    rw [h2 k hk] at h; cases h
  obtain ⟨n, hn⟩ : ∃ n, s.size = n + 1 := ⟨s.size - 1, by omega⟩
  unfold nmOk
  rw [hn, nm_nd, ← hn, h2]; simp
theorem okd_cases (b : Int) : (smallB b = true ∧ okd b = true) ∨ (smallB b = false ∧ digitB b = true ∧ okd b = true) ∨ (smallB b = false ∧ digitB b = false ∧ (b != 45) = false ∧ okd b = true) ∨ (smallB b = false ∧ digitB b = false ∧ (b != 45) = true ∧ okd b = false) := by
  by_cases h : b = 45
  · cases h1 : smallB b <;> cases h2 : digitB b <;> simp [okd, h]
  · cases h1 : smallB b <;> cases h2 : digitB b <;> simp [okd, h1, h2, h]

set_option maxHeartbeats 1600000 in
theorem specName_any (s : ByteArray) (w : World) (hs : s.size ≤ 9223372036854775807) :
    Calls Tryd.prog 81 #[.string s] w fun e w' => e = .returned (.bool (nmOk s)) ∧ w = w' := by
  by_cases h0 : s.size = 0
  · obtain rfl : s = ⟨#[]⟩ := by
      apply ByteArray.ext; exact Array.eq_empty_of_size_eq_zero h0
    go_enter Tryd.func81, Tryd.ntmps81
    go_wp2
    go_ret
    exact ⟨rfl, rfl⟩
  · have hne : s.toList.isEmpty = false := by
      cases h : s.toList.isEmpty
      · rfl
      · have h3 := toList_size s
        rw [List.isEmpty_iff.1 h] at h3; simp at h3; omega
    have hbt := PlainAid.get_bt s
    by_cases h12 : 12 < s.size
    · have H3 : Hid (nmOk s = false) := by
        show nmOk s = false
        unfold nmOk; rw [decide_eq_false (show ¬ s.size ≤ 12 by omega)]; simp
      have h12' : (12 : Int) < (s.size : Int) := by omega
      go_enter Tryd.func81, Tryd.ntmps81
      go_wp2
      go_ret
      exact ⟨by rw [H3.out]; rfl, rfl⟩
    · have h12' : (s.size : Int) ≤ 12 := by omega
      have hpos : (0 : Int) < (s.size : Int) := by omega
      have hpos' : 0 < s.size := by omega
      by_cases hsm : smallB (PlainAid.bt s 0) = true
      · have H3 : Hid (ndTo s s.size = true → nmOk s = true) := by
          intro hnd
          obtain ⟨n, hn⟩ : ∃ n, s.size = n + 1 := ⟨s.size - 1, by omega⟩
          unfold nmOk; rw [hn, nm_nd, ← hn, hnd, hsm, decide_eq_true (show 1 ≤ s.size by omega), decide_eq_true (show s.size ≤ 12 by omega)]; rfl
        go_enter Tryd.func81, Tryd.ntmps81
        go_wp2_with (go_at_call 125; refine (small_any _ _).mono ?_; rintro e w' ⟨rfl, rfl⟩)
        clear hsm
        go_loop [3] (fun i => ∃ k : Nat, k ≤ s.size ∧ i = .int .i64 k ∧ ndTo s k = true) (fun i => s.size - (intOf i).toNat)
        case atStart => exact ⟨0, Nat.zero_le _, rfl, rfl⟩
        case round =>
          obtain ⟨k, hk, rfl, hT⟩ := hrel
          have HT := Lib.hid hT
          clear hT
          by_cases hlt : k < s.size
          · have hlt' : (k : Int) < (s.size : Int) := by omega
            have HS := Lib.hid (ndTo_succ s k)
            have HB := fun h => Lib.hid (nd_bad s k hlt h)
            rcases okd_cases (PlainAid.bt s k) with ⟨l1, l3⟩ | ⟨l1, l2, l3⟩ | ⟨l1, l2, l4, l3⟩ | ⟨l1, l2, l4, l3⟩
            · have L3 := Lib.hid l3
              clear l3 HB
              go_wp2_with (first | (go_at_call 125; refine (small_any _ _).mono ?_; rintro e w' ⟨rfl, rfl⟩) | (go_at_call 101; refine (digit_any _ _).mono ?_; rintro e w' ⟨rfl, rfl⟩))
              go_round
              case rel => exact ⟨k + 1, by omega, by go_num, by rw [HS.out, HT.out, L3.out]; rfl⟩
              case measure => simp [intOf]; omega
            · have L3 := Lib.hid l3
              clear l3 HB
              go_wp2_with (first | (go_at_call 125; refine (small_any _ _).mono ?_; rintro e w' ⟨rfl, rfl⟩) | (go_at_call 101; refine (digit_any _ _).mono ?_; rintro e w' ⟨rfl, rfl⟩))
              go_round
              case rel => exact ⟨k + 1, by omega, by go_num, by rw [HS.out, HT.out, L3.out]; rfl⟩
              case measure => simp [intOf]; omega
            · have L3 := Lib.hid l3
              clear l3 HB
              go_wp2_with (first | (go_at_call 125; refine (small_any _ _).mono ?_; rintro e w' ⟨rfl, rfl⟩) | (go_at_call 101; refine (digit_any _ _).mono ?_; rintro e w' ⟨rfl, rfl⟩))
              go_round
              case rel => exact ⟨k + 1, by omega, by go_num, by rw [HS.out, HT.out, L3.out]; rfl⟩
              case measure => simp [intOf]; omega
            · have HB' := HB l3
              clear l3 HB
              go_wp2_with (first | (go_at_call 125; refine (small_any _ _).mono ?_; rintro e w' ⟨rfl, rfl⟩) | (go_at_call 101; refine (digit_any _ _).mono ?_; rintro e w' ⟨rfl, rfl⟩))
              go_ret
              exact ⟨by rw [HB'.out]; rfl, rfl⟩
          · obtain rfl : k = s.size := by omega
            have HZ := Lib.hid (H3.out HT.out)
            clear H3 HT
            go_wp2
            go_ret
            exact ⟨by rw [HZ.out]; rfl, rfl⟩
      · have hsm' : smallB (PlainAid.bt s 0) = false := by simpa using hsm
        have H3 : Hid (nmOk s = false) := by
          show nmOk s = false
          obtain ⟨n, hn⟩ : ∃ n, s.size = n + 1 := ⟨s.size - 1, by omega⟩
          unfold nmOk; rw [hn, nm_nd, hsm']; simp
        clear hsm
        go_enter Tryd.func81, Tryd.ntmps81
        go_wp2_with (go_at_call 125; refine (small_any _ _).mono ?_; rintro e w' ⟨rfl, rfl⟩)
        go_ret
        exact ⟨by rw [H3.out]; rfl, rfl⟩
end Go.Proofs.YtkegncanmfmmmaaDoor
