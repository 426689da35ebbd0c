/- l25Ok and the reference's ValidSigners: both say signersOk. -/
import Derived.Test.YtfghhginmgifaaaValidSigners
namespace Go.Proofs.Ytfghhginmgifaaa
open Go.RowKit
set_option linter.unusedVariables false

theorem specName_eq (s : ByteArray) (w : World) (hs : s.size ≤ 9223372036854775807) {v : Bool} (h : nmOk s = v) : Calls Try.prog 87 #[.string s] w fun e w' => e = .returned (.bool v) ∧ w = w' := by subst h; exact specName_any s w hs
theorem l00InS_eq (n a b : Int) (w : World) {v : Bool} (h : inB n a b = v) : Calls Try.prog 55 #[.int .i64 n, .int .i64 a, .int .i64 b] w fun e w' => e = .returned (.bool v) ∧ w = w' := by subst h; exact l00In_any n a b w

set_option maxHeartbeats 1600000 in
theorem specSigners_any (A : Option Addr) (n c : Nat) (xs : List Signer) (w : World) (lo : Nat) (h : Arr Signer.cs 2 w lo w.heap.size A n xs) (hn : n ≤ 1048576) (hc : n ≤ c) (hc2 : c ≤ 1048576) (hp : ∀ p ∈ xs, p.wf) :
    Calls Try.prog 83 #[.slice A n c] w fun e w' => e = .returned (.bool (signersOk xs)) ∧ Below w.heap.size w w' := by
  have HL := Lib.hid h.1
  go_enter Try.func83, Try.ntmps83
  go_wp2
  go_loopw [3] (fun i wr => ∃ k : Nat, k ≤ n ∧ i = .int .i64 k ∧ allTo (sgAt xs) k = true ∧ Below w.heap.size w wr) (fun i _ => n - (intOf i).toNat)
  case atStart => exact ⟨0, Nat.zero_le _, rfl, rfl, Below.refl _ _⟩
  case round =>
    obtain ⟨k, hk, rfl, hall, hb⟩ := hrel
    have HA := Lib.hid hall
    clear hall
    by_cases hlt : k < n
    · obtain ⟨b, off, p, rfl, hx, _, hbl, c0, c1⟩ := Signer.at (h.below hb) hlt
      have hpn := (hp p (List.mem_of_getElem? hx)).name
      have HX := Lib.hid hx
      clear hx
      have hk0 : (0 : Int) ≤ (k : Int) := by omega
      have hk1 : (k : Int) < (n : Int) := by omega
      have hkc : (k : Int) ≤ (c : Int) := by omega
      have hsz := hb.size
      cases h1 : nmOk p.name
      · have HB := Lib.hid (signersOk_bad HX.out (by rw [h1]; rfl))
        go_wp2_with fail
        go_quiet ((go_at_call 87; exact quiet_left (specName_eq _ _ hpn h1)))
        go_wp2
        go_ret
        exact ⟨by rw [HB.out]; rfl, bel_drewN hb _⟩
      · have H1 := Lib.hid h1
        cases h2 : inB p.key 1 65520
        · have HB := Lib.hid (signersOk_bad HX.out (by rw [h1, h2]; rfl))
          go_wp2_with fail
          go_quiet ((first | (go_at_call 87; exact quiet_left (specName_eq _ _ hpn h1)) | (go_at_call 55; exact quiet_left (l00InS_eq _ _ _ _ h2))))
          go_wp2
          go_ret
          exact ⟨by rw [HB.out]; rfl, bel_drewN hb _⟩
        · have H2 := Lib.hid h2
          have hall : ∀ j q, j < k → xs[j]? = some q → 1 ≤ q.key := fun j q hj hq => by
            have := allTo_iff.1 HA.out j hj
            rw [sgAt_of hq] at this
            simp only [Bool.and_eq_true] at this
            exact (inB_true.1 this.2.1).1
          have HT := Lib.hid (noTo_take (sName p.name) xs k (by have := HL.out; omega))
          have HALL := Lib.hid hall
          clear hall
          cases hno : noTo (sName p.name) xs k
          · have HB := Lib.hid (signersOk_bad HX.out (by rw [h1, h2, hno]; rfl))
            have hkey : (keyOfName (xs.take k) p.name != 0) = true := by
              rw [bne_iff_ne]
              rcases fIdx_cases (sName p.name) (xs.take k) with ⟨_, i2, _⟩ | ⟨m, y, _, i2, i3, i4, i5, _⟩
              · rw [HT.out, hno] at i2; cases i2
              · rw [keyOfName_hit i5 i3 i4]
                rw [List.getElem?_take] at i3
                split at i3
                · have := HALL.out m y (by assumption) i3; omega
                · cases i3
            clear hno
            go_wp2_with fail
            go_quiet ((first | (go_at_call 87; exact quiet_left (specName_eq _ _ hpn h1)) | (go_at_call 55; exact quiet_left (l00InS_eq _ _ _ _ h2)) | (go_at_call 97; exact quiet_left (specKey_any _ k _ (xs.take k) _ _ lo (((h.below (bel_drewN hb _)).more hsz).take hk) (by omega)))))
            go_wp2
            go_ret
            exact ⟨by rw [HB.out]; rfl, bel_drewN hb _⟩
          · have HN := Lib.hid hno
            have hkey : (keyOfName (xs.take k) p.name != 0) = false := by
              rw [keyOfName_none (HT.out.trans hno)]; rfl
            clear hno
            go_wp2_with fail
            go_quiet ((first | (go_at_call 87; exact quiet_left (specName_eq _ _ hpn h1)) | (go_at_call 55; exact quiet_left (l00InS_eq _ _ _ _ h2)) | (go_at_call 97; exact quiet_left (specKey_any _ k _ (xs.take k) _ _ lo (((h.below (bel_drewN hb _)).more hsz).take hk) (by omega)))))
            go_wp2
            go_roundw
            case rel => exact ⟨k + 1, by omega, by go_num, allTo_step HA.out (by rw [sgAt_of HX.out, H1.out, H2.out, HN.out]; rfl), bel_drewN hb _⟩
            case measure => simp [intOf]; omega
    · obtain rfl : k = n := by omega
      have H3 : Hid (signersOk xs = inB (k : Int) 1 8) := by
        show _ = _
        unfold signersOk; rw [h.1, HA.out]; rfl
      go_wp2_with (go_at_call 55; refine (l00In_any _ _ _ _).mono ?_; rintro e w2 ⟨rfl, rfl⟩)
      go_ret
      exact ⟨by rw [H3.out]; rfl, hb⟩

theorem specValidSigners_any (A : Option Addr) (n c : Nat) (xs : List Signer) (w : World) (lo : Nat) (h : Arr Signer.cs 2 w lo w.heap.size A n xs) (hn : n ≤ 1048576) (hc : n ≤ c) (hc2 : c ≤ 1048576) (hp : ∀ p ∈ xs, p.wf) :
    Calls Try.prog 51 #[.slice A n c] w fun e w' => e = .returned (.bool (signersOk xs)) ∧ Below w.heap.size w w' := by
  go_enter Try.func51, Try.ntmps51
  go_wp2_with (go_at_call 83; refine (specSigners_any _ _ _ xs _ _ h hn hc hc2 hp).mono ?_; rintro e w1 ⟨rfl, hb⟩)
  go_ret
  exact ⟨rfl, hb⟩
end Go.Proofs.Ytfghhginmgifaaa
