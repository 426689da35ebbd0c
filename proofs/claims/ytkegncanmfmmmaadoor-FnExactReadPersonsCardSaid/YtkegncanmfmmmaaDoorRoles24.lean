/- l24Roles of the reference: the roles that a word tells. -/
import Derived.Test.YtkegncanmfmmmaaDoorPsSpLaw
import Derived.Deep.RegionHeld3
namespace Go.Proofs.YtkegncanmfmmmaaDoor
open Go.RowKit
set_option linter.unusedVariables false
set_option linter.unusedSimpArgs false

/-- the bit behind k letters -/
def letTo (x : UInt8) : Nat → Int
  | 0 => 0
  | k + 1 => if x = rlLet k then 2 ^ k else letTo x k
theorem letTo_all (x : UInt8) : letTo x 3 = letBit x := by
  unfold letTo letTo letTo letTo letBit rlLet
  simp
theorem byte_lit (x : UInt8) (n : Nat) (hn : n < 256) : (x = UInt8.ofNat n) ↔ x.toNat = n := by
  constructor
  · intro h; rw [h]; simp; omega
  · intro h; exact UInt8.toNat_inj.1 (by rw [h]; simp; omega)
set_option maxRecDepth 100000 in
set_option maxHeartbeats 3200000 in
theorem l24Roles_any (b : ByteArray) (hs : b.size ≤ 1048576) (w : World) : Calls Tryd.prog 55 #[.string b] w fun e w' => e = .returned (.int .i64 (rSp b.data.toList)) ∧ Below w.heap.size w w' := by
  by_cases h45 : b = ⟨#[45]⟩
  · have HR : Hid (rSp b.data.toList = 0) := by show _ = _; rw [h45]; rfl
    subst h45
    go_enter Tryd.func55, Tryd.ntmps55
    go_wp2
    go_ret
    exact ⟨by first | rfl | (rw [HR.out]; rfl), Below.refl _ _⟩
  · have HR : Hid (rSp b.data.toList = rFrom 0 b.data.toList) := by
      show _ = _
      unfold rSp
      rw [if_neg (fun h => h45 (bytes_of_list _ _ h))]
    have hne : (b.toList == [45]) = false := by have h0 := text_ne h45; rw [show (⟨#[45]⟩ : ByteArray).toList = [45] from by decide +kernel] at h0; exact h0
    have HG0 := PlainAid.get_bt b
    go_enter Tryd.func55, Tryd.ntmps55
    go_wp2
    go_loopw [3, 4] (fun v3 v4 wr => ∃ (k : Nat) (z : Int), k ≤ b.size ∧ v4 = .int .i64 k ∧ v3 = .int .i64 z ∧ 0 ≤ z ∧ z ≤ 7 ∧ rFrom 0 b.data.toList = rFrom z (b.data.toList.drop k) ∧ Below w.heap.size w wr) (fun _ v4 _ => b.size - (intOf v4).toNat)
    case atStart => exact ⟨0, 0, Nat.zero_le _, rfl, rfl, by omega, by omega, by rw [List.drop_zero], Below.refl _ _⟩
    case round v _ =>
      obtain ⟨k, z, hk, rfl, rfl, hz0, hz7, hr, hb⟩ := hrel
      have HRR := Lib.hid hr
      have HB := Lib.hid hb
      clear hr hb
      by_cases hlt : k < b.size
      · obtain ⟨x, hd, hx, gx⟩ := drop_at b hlt
        have HD := Lib.hid hd
        have hk0 : (0 : Int) ≤ (k : Int) := by omega
        have hk1 : (k : Int) < (b.size : Int) := by omega
        clear hd hx
        have hgx := HG0 k hlt
        rw [gx] at hgx
        clear gx
        go_wp2
        go_loopw [5, 6] (fun v5 v6 w3 => ∃ (j : Nat), j ≤ 3 ∧ v6 = .int .i64 j ∧ v5 = .int .i64 (letTo x j) ∧ Below wr.heap.size wr w3) (fun _ v6 _ => 3 - (intOf v6).toNat)
        case atStart => exact ⟨0, by omega, rfl, rfl, Below.refl _ _⟩
        case round v2 _ =>
          obtain ⟨j, hj, rfl, rfl, hb3⟩ := hrel
          have HB3 := Lib.hid hb3
          clear hb3
          by_cases hj3 : j < 3
          · have hj012 : j = 0 ∨ j = 1 ∨ j = 2 := by omega
            rcases hj012 with rfl | rfl | rfl
            · by_cases hxe : x = rlLet 0
              · have hcmp : ((((⟨#[111, 115, 114]⟩ : ByteArray)[0]'(by decide)).toNat : Int) == PlainAid.bt b k) = true := by rw [← hgx, hxe]; rfl
                have hlt1 : letTo x 1 = 1 := if_pos hxe
                go_wp2
                go_region_held3 (fun _ => True) (trivial) ((go_at_call 103; refine (letters_any _).mono ?_; rintro e w5 ⟨rfl, rfl⟩))
                all_goals
                  go_wp2
                  go_roundw
                  · exact ⟨1, by omega, by go_num, by rw [hlt1], HB3.out.drew⟩
                  · simp [intOf]
              · have hcmp : ((((⟨#[111, 115, 114]⟩ : ByteArray)[0]'(by decide)).toNat : Int) == PlainAid.bt b k) = false := by
                  rw [← hgx, beq_eq_false_iff_ne]
                  intro h
                  exact hxe (UInt8.toNat_inj.1 (by have h2 : ((rlLet 0).toNat : Int) = (x.toNat : Int) := h; omega))
                have hlt1 : letTo x 1 = letTo x 0 := if_neg hxe
                go_wp2
                go_region_held3 (fun _ => True) (trivial) ((go_at_call 103; refine (letters_any _).mono ?_; rintro e w5 ⟨rfl, rfl⟩))
                all_goals
                  go_wp2
                  go_roundw
                  · exact ⟨1, by omega, by go_num, by rw [hlt1], HB3.out.drew⟩
                  · simp [intOf]
            · by_cases hxe : x = rlLet 1
              · have hcmp : ((((⟨#[111, 115, 114]⟩ : ByteArray)[1]'(by decide)).toNat : Int) == PlainAid.bt b k) = true := by rw [← hgx, hxe]; rfl
                have hlt1 : letTo x 2 = 2 := if_pos hxe
                go_wp2
                go_region_held3 (fun _ => True) (trivial) ((go_at_call 103; refine (letters_any _).mono ?_; rintro e w5 ⟨rfl, rfl⟩))
                all_goals
                  go_wp2
                  go_roundw
                  · exact ⟨2, by omega, by go_num, by rw [hlt1], HB3.out.drew⟩
                  · simp [intOf]
              · have hcmp : ((((⟨#[111, 115, 114]⟩ : ByteArray)[1]'(by decide)).toNat : Int) == PlainAid.bt b k) = false := by
                  rw [← hgx, beq_eq_false_iff_ne]
                  intro h
                  exact hxe (UInt8.toNat_inj.1 (by have h2 : ((rlLet 1).toNat : Int) = (x.toNat : Int) := h; omega))
                have hlt1 : letTo x 2 = letTo x 1 := if_neg hxe
                go_wp2
                go_region_held3 (fun _ => True) (trivial) ((go_at_call 103; refine (letters_any _).mono ?_; rintro e w5 ⟨rfl, rfl⟩))
                all_goals
                  go_wp2
                  go_roundw
                  · exact ⟨2, by omega, by go_num, by rw [hlt1], HB3.out.drew⟩
                  · simp [intOf]
            · by_cases hxe : x = rlLet 2
              · have hcmp : ((((⟨#[111, 115, 114]⟩ : ByteArray)[2]'(by decide)).toNat : Int) == PlainAid.bt b k) = true := by rw [← hgx, hxe]; rfl
                have hlt1 : letTo x 3 = 4 := if_pos hxe
                go_wp2
                go_region_held3 (fun _ => True) (trivial) ((go_at_call 103; refine (letters_any _).mono ?_; rintro e w5 ⟨rfl, rfl⟩))
                all_goals
                  go_wp2
                  go_roundw
                  · exact ⟨3, by omega, by go_num, by rw [hlt1], HB3.out.drew⟩
                  · simp [intOf]
              · have hcmp : ((((⟨#[111, 115, 114]⟩ : ByteArray)[2]'(by decide)).toNat : Int) == PlainAid.bt b k) = false := by
                  rw [← hgx, beq_eq_false_iff_ne]
                  intro h
                  exact hxe (UInt8.toNat_inj.1 (by have h2 : ((rlLet 2).toNat : Int) = (x.toNat : Int) := h; omega))
                have hlt1 : letTo x 3 = letTo x 2 := if_neg hxe
                go_wp2
                go_region_held3 (fun _ => True) (trivial) ((go_at_call 103; refine (letters_any _).mono ?_; rintro e w5 ⟨rfl, rfl⟩))
                all_goals
                  go_wp2
                  go_roundw
                  · exact ⟨3, by omega, by go_num, by rw [hlt1], HB3.out.drew⟩
                  · simp [intOf]
          · obtain rfl : j = 3 := by omega
            have HLB := Lib.hid (letTo_all x)
            have hb4 : 0 ≤ letTo x 3 ∧ letTo x 3 ≤ 4 ∧ (letTo x 3 = 4 ∨ letTo x 3 ≤ 2) := by
              rw [letTo_all]; rcases letBit_cases x with ⟨_, e⟩ | ⟨_, e⟩ | ⟨_, e⟩ | e <;> rw [e] <;> omega
            by_cases hle : letTo x 3 ≤ z
            · have HZ : Hid (rSp b.data.toList = -1) := by
                show _ = _
                rw [HR.out, HRR.out, HD.out, rFrom_cons, ← HLB.out, if_pos hle]
              go_wp2
              go_ret
              exact ⟨by rw [HZ.out]; rfl, HB.out.trans (HB3.out.mono HB.out.size)⟩
            · have HZ : Hid (rFrom 0 b.data.toList = rFrom (z + letTo x 3) (b.data.toList.drop (k + 1))) := by
                show _ = _
                rw [HRR.out, HD.out, rFrom_cons, ← HLB.out, if_neg hle]
              have hw64 : wrap64 (z + letTo x 3) = z + letTo x 3 := by unfold wrap64; omega
              go_wp2
              go_roundw
              case rel => exact ⟨k + 1, z + letTo x 3, by omega, by go_num, rfl, by omega, by omega, HZ.out, HB.out.trans (HB3.out.mono HB.out.size)⟩
              case measure => simp [intOf]; omega
      · obtain rfl : k = b.size := by omega
        have HZ : Hid (rSp b.data.toList = if z = 0 then -1 else z) := by
          show _ = _
          have h9 : b.data.toList.length = b.size := Array.length_toList
          rw [HR.out, HRR.out, List.drop_of_length_le (by omega)]; rfl
        by_cases hz : z = 0
        · subst hz
          go_wp2
          go_ret
          exact ⟨by rw [HZ.out]; rfl, HB.out⟩
        · go_wp2
          go_ret
          exact ⟨by rw [HZ.out, if_neg hz]; rfl, HB.out⟩
end Go.Proofs.YtkegncanmfmmmaaDoor
