/- l01Number of the reference and ReadDecimal of the program: both hand back numV and numB. -/
import Derived.Test.YtkegncanmfmmmaaDoorRdNum
import Derived.Test.YtkegncanmfmmmaaDoorDec
import Derived.Test.YtkegncanmfmmmaaDoorNames
import Derived.Lib.SmallJoins
namespace Go.Proofs.YtkegncanmfmmmaaDoor
open Go.RowKit
set_option linter.unusedVariables false

theorem digit_eq (c : Int) (w : World) {v : Bool} (h : digitB c = v) : Calls Tryd.prog 101 #[.int .u8 c] w fun e w' => e = .returned (.bool v) ∧ w = w' := by subst h; exact digit_any c w
theorem nonempty_list {s : ByteArray} (h : 0 < s.size) : s.toList.isEmpty = false := by
  cases h2 : s.toList.isEmpty
  · rfl
  · have h3 := toList_size s
    rw [List.isEmpty_iff] at h2
    rw [h2] at h3; simp at h3; omega
theorem decS_list (n : Int) : (decS n).data.toList = Lib.itoa n := by simp [decS]
theorem decS_is {n : Int} {s : ByteArray} (h : Lib.itoa n = s.data.toList) : decS n = s := by unfold decS; rw [h]
theorem text_ne {a b : ByteArray} (h : a ≠ b) : (a.toList == b.toList) = false := by
  rw [beq_eq_false_iff_ne]
  intro h2
  rw [ByteArray.toList_eq, ByteArray.toList_eq] at h2
  exact h (by cases a; cases b; simp at h2; rw [h2])
theorem empty_text {s : ByteArray} (h : s.size = 0) : s = ⟨#[]⟩ := by apply ByteArray.ext; exact Array.eq_empty_of_size_eq_zero h

set_option maxRecDepth 100000 in
set_option maxHeartbeats 3200000 in
theorem l01Number_any (s : ByteArray) (w : World) (hs : s.size ≤ 9223372036854775807) :
    Calls Tryd.prog 54 #[.string s] w fun e w' => e = .returned (.tuple #[.int .i64 (numV s.data.toList), .bool (numB s.data.toList)]) ∧ Below w.heap.size w w' := by
  by_cases h0 : s.size = 0
  · have HN := Lib.hid (num_none (numO_empty (s := s.data.toList) (by rw [(unsigned_no (.inl h0)).1]; have e9 : s.data.toList.length = s.size := Array.length_toList; omega)))
    have hse := empty_text h0
    rw [hse] at HN ⊢
    go_enter Tryd.func54, Tryd.ntmps54
    go_wp2
    go_ret2
    exact ⟨by rw [HN.out.1, HN.out.2]; rfl, Below.refl _ _⟩
  · have hne := nonempty_list (s := s) (by omega)
    have HG0 := PlainAid.get_bt s
    have hz : (0 : Int) < (s.size : Int) := by omega
    by_cases h45 : PlainAid.bt s 0 = 45
    · obtain ⟨u1, u2, u3⟩ := unsigned_yes (s := s) (by omega) h45
      have hb45 : (PlainAid.bt s 0 == 45) = true := by rw [h45]; rfl
      obtain ⟨t, ht⟩ : ∃ t, t = s.extract 1 s.size := ⟨_, rfl⟩
      rw [← ht] at u1 u3
      have HU := Lib.hid u1
      have HSG := Lib.hid u2
      have HT3 := Lib.hid u3
      have HTX := Lib.hid ht
      have hlz : (t.size : Int) < (s.size : Int) := by omega
      clear u1 u2 h45 ht
      by_cases h1 : t.size < 1
      · have HN := Lib.hid (num_none (numO_empty (s := s.data.toList) (by rw [HU.out]; have e9 : t.data.toList.length = t.size := Array.length_toList; omega)))
        have h1z : ((s.size - 1 : Nat) : Int) < 1 := by omega
        clear u3 hlz
        go_enter Tryd.func54, Tryd.ntmps54
        go_wp2
        go_ret2
        exact ⟨by rw [HN.out.1, HN.out.2]; rfl, Below.refl _ _⟩
      · by_cases h2 : 18 < t.size
        · have HN := Lib.hid (num_none (numO_long (s := s.data.toList) (by rw [HU.out]; have e9 : t.data.toList.length = t.size := Array.length_toList; omega)))
          have h1z : ¬ ((s.size - 1 : Nat) : Int) < 1 := by omega
          have h2z : (18 : Int) < ((s.size - 1 : Nat) : Int) := by omega
          clear u3 hlz
          go_enter Tryd.func54, Tryd.ntmps54
          go_wp2
          go_ret2
          exact ⟨by rw [HN.out.1, HN.out.2]; rfl, Below.refl _ _⟩
        · have h1z : ¬ ((s.size - 1 : Nat) : Int) < 1 := by omega
          have h2z : ¬ (18 : Int) < ((s.size - 1 : Nat) : Int) := by omega
          clear u3
          go_enter Tryd.func54, Tryd.ntmps54
          go_wp2
          rw [← HTX.out]
          clear h1z h2z HG0
          have HG := PlainAid.get_bt t
          go_loopw [5, 6] (fun v5 v6 wr => ∃ (k m : Nat), k ≤ t.size ∧ v6 = .int .i64 k ∧ v5 = .int .i64 m ∧ DigTo t k m ∧ wr = w) (fun _ v6 _ => t.size - (intOf v6).toNat)
          case atStart => exact ⟨0, 0, Nat.zero_le _, rfl, rfl, DigTo.zero _, rfl⟩
          case round =>
            obtain ⟨k, m, hk, rfl, rfl, hd, rfl⟩ := hrel
            have HD := Lib.hid hd
            have hm18 := pow18 hd.2 (by omega)
            clear hd
            by_cases hlt : k < t.size
            · have hk0 : (0 : Int) ≤ (k : Int) := by omega
              have hk1 : (k : Int) < (t.size : Int) := by omega
              have hb0 := PlainAid.bt_nonneg t k
              have hb1 := PlainAid.bt_le t k
              by_cases hdg : 48 ≤ PlainAid.bt t k ∧ PlainAid.bt t k ≤ 57
              · have hdb : digitB (PlainAid.bt t k) = true := by simp [digitB, hdg.1, hdg.2]
                have HST := Lib.hid (HD.out.step hlt hdg.1 hdg.2)
                have hm17 : m < 100000000000000000 := Nat.lt_of_lt_of_le HD.out.2 (Nat.pow_le_pow_right (by decide : 0 < 10) (show k ≤ 17 by omega))
                have HE : Hid (10 * (m : Int) + (PlainAid.bt t k - 48) = ((10 * m + (PlainAid.bt t k).toNat - 48 : Nat) : Int)) := by show _ = _; omega
                have hw1 : IntKind.u8.wrap (PlainAid.bt t k - 48) = PlainAid.bt t k - 48 := by rw [IntKind.wrap_u8]; omega
                go_wp2_with (go_at_call 101; refine (digit_eq _ _ hdb).mono ?_; rintro e w1 ⟨rfl, rfl⟩)
                go_roundw
                case rel => exact ⟨k + 1, _, by omega, by go_num, by rw [HE.out], HST.out, by trivial⟩
                case measure => simp [intOf]; omega
              · have hdb : digitB (PlainAid.bt t k) = false := by
                  cases h : digitB (PlainAid.bt t k) with
                  | false => rfl
                  | true => simp [digitB] at h; exact absurd h hdg
                have HN := Lib.hid (num_none (numO_none (s := s.data.toList) (by rw [HU.out]; exact DigTo.bad hlt (by omega))))
                go_wp2_with (go_at_call 101; refine (digit_eq _ _ hdb).mono ?_; rintro e w1 ⟨rfl, rfl⟩)
                go_ret2
                exact ⟨by rw [HN.out.1, HN.out.2]; rfl, Below.refl _ _⟩
            · obtain rfl : k = t.size := by omega
              have HV := Lib.hid (HD.out.whole)
              have HS := Lib.hid (HSG.out m)
              by_cases heq : decS (-(m : Int)) = s
              · have HN := Lib.hid (num_some (numO_yes (s := s.data.toList) (m := m) (by rw [HU.out]; exact HV.out) (by rw [HS.out, ← heq]; exact (decS_list _).symm) (by rw [HU.out]; have e9 : t.data.toList.length = t.size := Array.length_toList; omega)))
                have hne : ((decS (-(m : Int))).toList == s.toList) = true := by rw [heq]; simp
                clear heq
                go_wp2_with (go_at_call 102; refine (l01Dec_any (-(m : Int)) (by omega) (by omega) _).mono ?_; rintro e w1 ⟨rfl, hb⟩)
                go_ret2
                exact ⟨by rw [HN.out.1, HN.out.2, HS.out]; rfl, hb⟩
              · have HN := Lib.hid (num_none (numO_no (s := s.data.toList) (m := m) (by rw [HU.out]; exact HV.out) (by rw [HS.out]; intro h; exact heq (decS_is h))))
                have hne : ((decS (-(m : Int))).toList == s.toList) = false := text_ne heq
                clear heq
                go_wp2_with (go_at_call 102; refine (l01Dec_any (-(m : Int)) (by omega) (by omega) _).mono ?_; rintro e w1 ⟨rfl, hb⟩)
                go_ret2
                exact ⟨by rw [HN.out.1, HN.out.2]; rfl, hb⟩
    · obtain ⟨u1, u2⟩ := unsigned_no (s := s) (.inr h45)
      have hb45 : (PlainAid.bt s 0 == 45) = false := beq_eq_false_iff_ne.2 h45
      have HU := Lib.hid u1
      have HSG := Lib.hid u2
      clear u1 u2 h45
      have h1z : ¬ (s.size : Int) < 1 := by omega
      by_cases h2 : 18 < s.size
      · have HN := Lib.hid (num_none (numO_long (s := s.data.toList) (by rw [HU.out]; have e9 : s.data.toList.length = s.size := Array.length_toList; omega)))
        have h2z : (18 : Int) < (s.size : Int) := by omega
        go_enter Tryd.func54, Tryd.ntmps54
        go_wp2
        go_ret2
        exact ⟨by rw [HN.out.1, HN.out.2]; rfl, Below.refl _ _⟩
      · have h2z : ¬ (18 : Int) < (s.size : Int) := by omega
        go_enter Tryd.func54, Tryd.ntmps54
        go_wp2
        clear h1z h2z HG0
        have HG := PlainAid.get_bt s
        go_loopw [5, 6] (fun v5 v6 wr => ∃ (k m : Nat), k ≤ s.size ∧ v6 = .int .i64 k ∧ v5 = .int .i64 m ∧ DigTo s k m ∧ wr = w) (fun _ v6 _ => s.size - (intOf v6).toNat)
        case atStart => exact ⟨0, 0, Nat.zero_le _, rfl, rfl, DigTo.zero _, rfl⟩
        case round =>
          obtain ⟨k, m, hk, rfl, rfl, hd, rfl⟩ := hrel
          have HD := Lib.hid hd
          have hm18 := pow18 hd.2 (by omega)
          clear hd
          by_cases hlt : k < s.size
          · have hk0 : (0 : Int) ≤ (k : Int) := by omega
            have hk1 : (k : Int) < (s.size : Int) := by omega
            have hb0 := PlainAid.bt_nonneg s k
            have hb1 := PlainAid.bt_le s k
            by_cases hdg : 48 ≤ PlainAid.bt s k ∧ PlainAid.bt s k ≤ 57
            · have hdb : digitB (PlainAid.bt s k) = true := by simp [digitB, hdg.1, hdg.2]
              have HST := Lib.hid (HD.out.step hlt hdg.1 hdg.2)
              have hm17 : m < 100000000000000000 := Nat.lt_of_lt_of_le HD.out.2 (Nat.pow_le_pow_right (by decide : 0 < 10) (show k ≤ 17 by omega))
              have HE : Hid (10 * (m : Int) + (PlainAid.bt s k - 48) = ((10 * m + (PlainAid.bt s k).toNat - 48 : Nat) : Int)) := by show _ = _; omega
              have hw1 : IntKind.u8.wrap (PlainAid.bt s k - 48) = PlainAid.bt s k - 48 := by rw [IntKind.wrap_u8]; omega
              go_wp2_with (go_at_call 101; refine (digit_eq _ _ hdb).mono ?_; rintro e w1 ⟨rfl, rfl⟩)
              go_roundw
              case rel => exact ⟨k + 1, _, by omega, by go_num, by rw [HE.out], HST.out, by trivial⟩
              case measure => simp [intOf]; omega
            · have hdb : digitB (PlainAid.bt s k) = false := by
                cases h : digitB (PlainAid.bt s k) with
                | false => rfl
                | true => simp [digitB] at h; exact absurd h hdg
              have HN := Lib.hid (num_none (numO_none (s := s.data.toList) (by rw [HU.out]; exact DigTo.bad hlt (by omega))))
              go_wp2_with (go_at_call 101; refine (digit_eq _ _ hdb).mono ?_; rintro e w1 ⟨rfl, rfl⟩)
              go_ret2
              exact ⟨by rw [HN.out.1, HN.out.2]; rfl, Below.refl _ _⟩
          · obtain rfl : k = s.size := by omega
            have HV := Lib.hid (HD.out.whole)
            have HS := Lib.hid (HSG.out m)
            by_cases heq : decS ((m : Int)) = s
            · have HN := Lib.hid (num_some (numO_yes (s := s.data.toList) (m := m) (by rw [HU.out]; exact HV.out) (by rw [HS.out, ← heq]; exact (decS_list _).symm) (by rw [HU.out]; have e9 : s.data.toList.length = s.size := Array.length_toList; omega)))
              have hne : ((decS ((m : Int))).toList == s.toList) = true := by rw [heq]; simp
              clear heq
              go_wp2_with (go_at_call 102; refine (l01Dec_any ((m : Int)) (by omega) (by omega) _).mono ?_; rintro e w1 ⟨rfl, hb⟩)
              go_ret2
              exact ⟨by rw [HN.out.1, HN.out.2, HS.out]; rfl, hb⟩
            · have HN := Lib.hid (num_none (numO_no (s := s.data.toList) (m := m) (by rw [HU.out]; exact HV.out) (by rw [HS.out]; intro h; exact heq (decS_is h))))
              have hne : ((decS ((m : Int))).toList == s.toList) = false := text_ne heq
              clear heq
              go_wp2_with (go_at_call 102; refine (l01Dec_any ((m : Int)) (by omega) (by omega) _).mono ?_; rintro e w1 ⟨rfl, hb⟩)
              go_ret2
              exact ⟨by rw [HN.out.1, HN.out.2]; rfl, hb⟩

/-- the two variables of strconv's errors hold values -/
structure ErrW (w : World) : Prop where
  big : 3 < w.heap.size
  syn : ∃ t p, w.cell? ⟨2, 0, none⟩ = some (.iface t p)
  ran : ∃ t p, w.cell? ⟨3, 0, none⟩ = some (.iface t p)
theorem ErrW.bel {w w' : World} (h : ErrW w) (hb : Below w.heap.size w w') : ErrW w' := by
  have hs := h.big
  refine ⟨Nat.lt_of_lt_of_le hs hb.size, ?_, ?_⟩
  · obtain ⟨t, p, e⟩ := h.syn
    exact ⟨t, p, (hb.cell (show 2 < w.heap.size by omega)).trans e⟩
  · obtain ⟨t, p, e⟩ := h.ran
    exact ⟨t, p, (hb.cell (show 3 < w.heap.size by omega)).trans e⟩
theorem trim_unsigned (l : List UInt8) : Lib.trimPrefix l [45] = unsigned l := by
  cases l with
  | nil => rfl
  | cons b r =>
    unfold Lib.trimPrefix Lib.hasPrefix
    show (if ([45].isPrefixOf (b :: r)) = true then (b :: r).drop 1 else b :: r) = (if b.toNat = 45 then r else b :: r)
    by_cases h : b.toNat = 45
    · have e : b = 45 := UInt8.toNat_inj.1 h
      subst e; simp
    · have e : ¬ (45 : UInt8) = b := fun e => h (by rw [← e]; rfl)
      rw [if_neg h, if_neg]
      simp [List.isPrefixOf, e]
theorem list_size (l : List UInt8) : (⟨l.toArray⟩ : ByteArray).size = l.length := by show l.toArray.size = _; simp
set_option maxHeartbeats 1600000 in
theorem trimMinus_any (s : ByteArray) (w : World) : Calls Tryd.prog 50 #[.string s, .string ⟨#[45]⟩] w fun e w' => e = .returned (.string ⟨(unsigned s.data.toList).toArray⟩) ∧ w' = w := by
  have := Tryd.strings_TrimPrefix s ⟨#[45]⟩ w
  rw [show (⟨#[45]⟩ : ByteArray).data.toList = [45] from rfl, trim_unsigned] at this
  exact this
theorem bytesWorld_below (w : World) (e : TypeId) (s : ByteArray) : Below w.heap.size w (Lib.bytesWorld w e s) := Joins.below_bytesWorld _ w e s (Nat.le_refl _)
theorem parsed_below {w w2 : World} {e : TypeId} (h : w2 = w ∨ ∃ t, w2 = Lib.bytesWorld w e t) : Below w.heap.size w w2 := by
  rcases h with h | ⟨t, h⟩
  · rw [h]; exact Below.refl _ _
  · rw [h]; exact bytesWorld_below _ _ _
theorem parse_range {l : List UInt8} {v : Int} (h : Lib.parseIntB 64 l = .ok v) : -9223372036854775808 ≤ v ∧ v ≤ 9223372036854775807 := by
  have e : (2 : Nat) ^ (64 - 1) = 9223372036854775808 := by decide
  unfold Lib.parseIntB at h
  split at h
  · cases h
  · dsimp only at h
    split at h
    · cases h
    · cases h
    · split at h
      · cases h
      · next c1 =>
        split at h
        · cases h
        · next c2 =>
          rw [e] at c1 c2
          injection h with h
          subst h
          split
          · next c3 => exact ⟨by omega, by omega⟩
          · next c3 => exact ⟨by omega, by omega⟩
set_option maxHeartbeats 1600000 in
theorem readDecimal_any (s : ByteArray) (w : World) (hs : s.size ≤ 281474976710656) (ht : TabW w) (hE : ErrW w) :
    Calls Tryd.prog 59 #[.string s] w fun e w' => e = .returned (.tuple #[.int .i64 (numV s.data.toList), .bool (numB s.data.toList)]) ∧ Below w.heap.size w w' := by
  have HT := Lib.hid ht
  have HE := Lib.hid hE
  clear ht hE
  obtain ⟨u, hu⟩ : ∃ u, u = unsigned s.data.toList := ⟨_, rfl⟩
  have htr := trimMinus_any s w
  rw [← hu] at htr
  have HUU := Lib.hid hu
  clear hu
  by_cases h18 : 18 < u.length
  · have h18z : (18 : Int) < (u.length : Int) := by omega
    have HN := Lib.hid (num_none (numO_long (s := s.data.toList) (by rw [← HUU.out]; exact h18)))
    go_enter Tryd.func59, Tryd.ntmps59
    go_wp2_with (go_at_call 50; refine htr.mono ?_; rintro e w1 ⟨rfl, rfl⟩)
    go_ret2
    exact ⟨by rw [HN.out.1, HN.out.2]; rfl, Below.refl _ _⟩
  · have h18z : ¬ (18 : Int) < (u.length : Int) := by omega
    have HL : Hid ((unsigned s.data.toList).length ≤ 18) := by show _ ≤ _; rw [← HUU.out]; omega
    rcases hp : Lib.parseIntB 64 s.data.toList with v | _ | _
    · have hv : -9223372036854775808 ≤ v ∧ v ≤ 9223372036854775807 := parse_range hp
      by_cases heq : decS v = s
      · have HN := Lib.hid (num_some (numO_of_parse hp (by rw [← heq]; exact (decS_list _).symm) HL.out))
        have hne : ((decS v).toList == s.toList) = true := by rw [heq]; simp
        clear heq
        go_enter Tryd.func59, Tryd.ntmps59
        go_wp2_with (first | (go_at_call 50; refine htr.mono ?_; rintro e w1 ⟨rfl, rfl⟩) | (go_at_call 107; refine (Tryd.strconv_ParseInt_10_at64_ok s (by omega) v hp _).mono ?_; rintro e w2 ⟨rfl, hw2⟩; have hb2 := parsed_below hw2; clear hw2; have HB2 := Lib.hid hb2; clear hb2) | (go_at_call 99; refine (decimal_any v hv.1 hv.2 _ (HT.out.bel HB2.out)).mono ?_; rintro e w3 ⟨rfl, hb3⟩))
        go_ret2
        exact ⟨by rw [HN.out.1, HN.out.2]; rfl, HB2.out.trans (hb3.mono HB2.out.size)⟩
      · have HN := Lib.hid (num_none (numO_not_parse hp (fun h => heq (decS_is h))))
        have hne : ((decS v).toList == s.toList) = false := text_ne heq
        clear heq
        go_enter Tryd.func59, Tryd.ntmps59
        go_wp2_with (first | (go_at_call 50; refine htr.mono ?_; rintro e w1 ⟨rfl, rfl⟩) | (go_at_call 107; refine (Tryd.strconv_ParseInt_10_at64_ok s (by omega) v hp _).mono ?_; rintro e w2 ⟨rfl, hw2⟩; have hb2 := parsed_below hw2; clear hw2; have HB2 := Lib.hid hb2; clear hb2) | (go_at_call 99; refine (decimal_any v hv.1 hv.2 _ (HT.out.bel HB2.out)).mono ?_; rintro e w3 ⟨rfl, hb3⟩))
        go_ret2
        exact ⟨by rw [HN.out.1, HN.out.2]; rfl, HB2.out.trans (hb3.mono HB2.out.size)⟩
    · have HN := Lib.hid (num_none (s := s.data.toList) (by cases hn : numO s.data.toList with | none => rfl | some n => rw [numO_parse hn] at hp; cases hp))
      obtain ⟨t1, p1, hc⟩ := HE.out.syn
      go_enter Tryd.func59, Tryd.ntmps59
      go_wp2_with (first | (go_at_call 50; refine htr.mono ?_; rintro e w1 ⟨rfl, rfl⟩) | (go_at_call 107; refine (Any.strconv_ParseInt_10_at64_syntax Tryd.laysC174 s hs hp _ _ hc (Or.inr ⟨t1, p1, rfl⟩)).mono ?_; rintro e w2 ⟨N, rfl, hN, hNh, hb⟩))
      go_ret2
      exact ⟨by rw [HN.out.1, HN.out.2]; rfl, hb⟩
    · have HN := Lib.hid (num_none (s := s.data.toList) (by cases hn : numO s.data.toList with | none => rfl | some n => rw [numO_parse hn] at hp; cases hp))
      obtain ⟨t1, p1, hc⟩ := HE.out.ran
      go_enter Tryd.func59, Tryd.ntmps59
      go_wp2_with (first | (go_at_call 50; refine htr.mono ?_; rintro e w1 ⟨rfl, rfl⟩) | (go_at_call 107; refine (Tryd.strconv_ParseInt_10_at64_range s hs hp _ _ hc (Or.inr ⟨t1, p1, rfl⟩)).mono ?_; rintro e w2 ⟨N, rfl, hN, hNh, hb⟩))
      go_ret2
      exact ⟨by rw [HN.out.1, HN.out.2]; rfl, hb⟩
end Go.Proofs.YtkegncanmfmmmaaDoor
