/- l24Fault, of the reference: the fault of a shift behind others that have their form. -/
import Derived.Test.YtdoinbnnpompiaaShiftFault
import Derived.BigQuiet
namespace Go.Proofs.Ytdoinbnnpompiaa
open Go.RowKit
set_option linter.unusedVariables false

theorem specHas_eq (b off : Nat) (p : Person) (role hour : Int) (w : World) (hc1 : w.cell? ⟨b, off + 1, none⟩ = some (.int .i64 p.roles)) (hc2 : w.cell? ⟨b, off + 2, none⟩ = some (.int .i64 p.till)) (hp : 0 ≤ p.roles ∧ p.roles ≤ 7) (hr : roleB role = true) (h0 : 0 ≤ hour) (h1 : hour ≤ 9223372036854775807) {v : Bool} (hv : hasB p role hour = v) :
    Calls Try.prog 191 #[.pointer (some ⟨b, off, none⟩), .int .i64 role, .int .i64 hour] w fun e w' => e = .returned (.bool v) ∧ w = w' := by subst hv; exact specHas_any b off p role hour w hc1 hc2 hp hr h0 h1
theorem specForm_eq (b off : Nat) (x : Shift) (w : World) (c0 : w.cell? ⟨b, off, none⟩ = some (.int .i64 x.person)) (c1 : w.cell? ⟨b, off + 1, none⟩ = some (.int .i64 x.crane)) (c2 : w.cell? ⟨b, off + 2, none⟩ = some (.int .i64 x.role)) (c3 : w.cell? ⟨b, off + 3, none⟩ = some (.int .i64 x.start)) (c4 : w.cell? ⟨b, off + 4, none⟩ = some (.int .i64 x.stop)) {v : Bool} (hv : fOk x = v) :
    Calls Try.prog 190 #[.pointer (some ⟨b, off, none⟩)] w (Quiet (.bool v) w) := by subst hv; exact specForm_any b off x w c0 c1 c2 c3 c4

set_option maxHeartbeats 800000 in
theorem specFault_1 (A A2 : Option Addr) (n c n2 c2 : Nat) (ps : List Person) (bs : List Shift) (x : Shift) (b off : Nat) (w : World)
    (c0 : w.cell? ⟨b, off, none⟩ = some (.int .i64 x.person)) (c1 : w.cell? ⟨b, off + 1, none⟩ = some (.int .i64 x.crane)) (c2' : w.cell? ⟨b, off + 2, none⟩ = some (.int .i64 x.role)) (c3 : w.cell? ⟨b, off + 3, none⟩ = some (.int .i64 x.start)) (c4 : w.cell? ⟨b, off + 4, none⟩ = some (.int .i64 x.stop)) (hf : fOk x = false) :
    Calls Try.prog 116 #[.slice A n c, .slice A2 n2 c2, .pointer (some ⟨b, off, none⟩)] w (Quiet (.int .i64 (faultOf ps bs x)) w) := by
  have H : Hid (faultOf ps bs x = 1) := fault_1 hf
  go_enter Try.func116, Try.ntmps116
  go_wp2_with fail
  refine (specForm_eq b off x _ c0 c1 c2' c3 c4 hf).mono ?_
  rintro e w1 ⟨rfl, m, rfl⟩
  go_wp2
  go_ret
  exact ⟨by rw [H.out]; rfl, _, rfl⟩

set_option maxHeartbeats 800000 in
theorem specFault_2 (A A2 : Option Addr) (n c n2 c2 : Nat) (ps : List Person) (bs : List Shift) (x : Shift) (b off : Nat) (w : World) (hl : ps.length = n) (hn : n ≤ 1048576)
    (c0 : w.cell? ⟨b, off, none⟩ = some (.int .i64 x.person)) (c1 : w.cell? ⟨b, off + 1, none⟩ = some (.int .i64 x.crane)) (c2' : w.cell? ⟨b, off + 2, none⟩ = some (.int .i64 x.role)) (c3 : w.cell? ⟨b, off + 3, none⟩ = some (.int .i64 x.start)) (c4 : w.cell? ⟨b, off + 4, none⟩ = some (.int .i64 x.stop)) (hf : fOk x = true) (hi : (n : Int) ≤ x.person) :
    Calls Try.prog 116 #[.slice A n c, .slice A2 n2 c2, .pointer (some ⟨b, off, none⟩)] w (Quiet (.int .i64 (faultOf ps bs x)) w) := by
  have H : Hid (faultOf ps bs x = 2) := fault_2 hf (inB_false.2 (by rw [hl]; omega))
  clear hl
  go_enter Try.func116, Try.ntmps116
  go_wp2_with fail
  refine (specForm_eq b off x _ c0 c1 c2' c3 c4 hf).mono ?_
  rintro e w1 ⟨rfl, m, rfl⟩
  go_wp2
  go_ret
  exact ⟨by rw [H.out]; rfl, _, rfl⟩


theorem twiceB_cases (x y : Shift) : ((y.crane == x.crane) = false ∧ twiceB x y = false) ∨ ((y.crane == x.crane) = true ∧ (y.role == x.role) = false ∧ twiceB x y = false) ∨ ((y.crane == x.crane) = true ∧ (y.role == x.role) = true ∧ decide (y.start < x.stop) = false ∧ twiceB x y = false) ∨
    ((y.crane == x.crane) = true ∧ (y.role == x.role) = true ∧ decide (y.start < x.stop) = true ∧ decide (x.start < y.stop) = false ∧ twiceB x y = false) ∨ ((y.crane == x.crane) = true ∧ (y.role == x.role) = true ∧ decide (y.start < x.stop) = true ∧ decide (x.start < y.stop) = true ∧ twiceB x y = true) := by
  have e1 : decide (y.crane = x.crane) = (y.crane == x.crane) := by rw [Bool.eq_iff_iff]; simp
  have e2 : decide (y.role = x.role) = (y.role == x.role) := by rw [Bool.eq_iff_iff]; simp
  unfold twiceB meetB
  rw [e1, e2]
  cases (y.crane == x.crane) <;> cases (y.role == x.role) <;> cases decide (y.start < x.stop) <;> cases decide (x.start < y.stop) <;> simp
theorem restB_cases (x y : Shift) : ((y.person == x.person) = false ∧ restB x y = false) ∨ ((y.person == x.person) = true ∧ decide (y.start < x.stop + 11) = false ∧ restB x y = false) ∨ ((y.person == x.person) = true ∧ decide (y.start < x.stop + 11) = true ∧ decide (x.start < y.stop + 11) = false ∧ restB x y = false) ∨
    ((y.person == x.person) = true ∧ decide (y.start < x.stop + 11) = true ∧ decide (x.start < y.stop + 11) = true ∧ restB x y = true) := by
  have e1 : decide (y.person = x.person) = (y.person == x.person) := by rw [Bool.eq_iff_iff]; simp
  have e2 : decide (x.start - y.stop < 11) = decide (x.start < y.stop + 11) := by rw [Bool.eq_iff_iff]; simp; omega
  have e3 : decide (y.start - x.stop < 11) = decide (y.start < x.stop + 11) := by rw [Bool.eq_iff_iff]; simp; omega
  unfold restB
  rw [e1, e2, e3]
  cases (y.person == x.person) <;> cases decide (y.start < x.stop + 11) <;> cases decide (x.start < y.stop + 11) <;> simp
theorem noTo_any {α : Type} {q : α → Bool} {xs : List α} (h : noTo q xs xs.length = true) : xs.any q = false := by
  rw [List.any_eq_false]; intro y hy
  obtain ⟨j, hj, rfl⟩ := List.getElem_of_mem hy
  rw [noTo_iff.1 h j hj _ (List.getElem?_eq_getElem hj)]; simp
theorem any_hit {α : Type} {q : α → Bool} {xs : List α} {k : Nat} {y : α} (hx : xs[k]? = some y) (h : q y = true) : xs.any q = true := List.any_eq_true.2 ⟨y, List.mem_of_getElem? hx, h⟩

set_option maxRecDepth 100000 in
set_option maxHeartbeats 1600000 in
theorem specFault_p (A A2 : Option Addr) (n c n2 c2 : Nat) (ps : List Person) (bs : List Shift) (x : Shift) (b off : Nat) (w : World) (lo lo2 : Nat) (h : Arr Person.cs 3 w lo w.heap.size A n ps) (hn : n ≤ 1048576) (h2 : Arr Shift.cs 5 w lo2 w.heap.size A2 n2 bs) (hn2 : n2 ≤ 1048576)
    (hps : ∀ p ∈ ps, pOk p = true) (hbs : ∀ y ∈ bs, fOk y = true)
    (c0 : w.cell? ⟨b, off, none⟩ = some (.int .i64 x.person)) (c1 : w.cell? ⟨b, off + 1, none⟩ = some (.int .i64 x.crane)) (c2' : w.cell? ⟨b, off + 2, none⟩ = some (.int .i64 x.role)) (c3 : w.cell? ⟨b, off + 3, none⟩ = some (.int .i64 x.start)) (c4 : w.cell? ⟨b, off + 4, none⟩ = some (.int .i64 x.stop)) (hf : fOk x = true) (hi : x.person < (n : Int)) :
    Calls Try.prog 116 #[.slice A n c, .slice A2 n2 c2, .pointer (some ⟨b, off, none⟩)] w (Quiet (.int .i64 (faultOf ps bs x)) w) := by
  obtain ⟨f1, f2, f3, f4, f5⟩ := fOk_iff hf
  have hkn : x.person.toNat < n := by omega
  obtain ⟨pb, poff, p, rfl, hx, _, hbl, p0, p1, p2⟩ := Person.at h hkn
  have HP := Lib.hid (fault_p (bs := bs) hf (inB_true.2 (by rw [h.1]; omega)) hx)
  have hpr := pOk_roles (hps p (List.mem_of_getElem? hx))
  have HR : Hid (roleB x.role = true) := roleB_iff.2 f3
  have hi0 : 0 ≤ x.person := f1.1
  have HW : Hid (IntKind.i64.wrap (x.stop - 1) = x.stop - 1) := IntWalk.i64_in _ ⟨by omega, by omega⟩
  have HW2 : Hid (IntKind.i64.wrap (x.stop + 11) = x.stop + 11) := IntWalk.i64_in _ ⟨by omega, by omega⟩
  have S0 : Hid (0 ≤ x.stop - 1) := by show 0 ≤ _; omega
  have S1 : Hid (x.stop - 1 ≤ 9223372036854775807) := by show _ ≤ _; omega
  have HF := Lib.hid hf
  have HPR := Lib.hid hpr
  have HBS := Lib.hid hbs
  have HL2 := Lib.hid h2.1
  clear hx f3 h hpr hbs hps
  cases hbit : bitB p.roles x.role
  · have e1 : (bits .and .i64 p.roles x.role == 0) = true := by
      have : (bits .and .i64 p.roles x.role != 0) = false := hbit
      simpa using this
    have H : Hid (faultOf ps bs x = 3) := by show _ = _; rw [HP.out, hbit]; rfl
    go_enter Try.func116, Try.ntmps116
    go_wp2_with fail
    refine (specForm_eq b off x _ c0 c1 c2' c3 c4 hf).mono ?_
    rintro e w1 ⟨rfl, m, rfl⟩
    clear hf
    go_wp2_with fail
    go_quiet (fail)
    go_wp2
    go_ret
    exact ⟨by rw [H.out]; rfl, by first | exact ⟨_, rfl⟩ | exact ⟨_, World.drewN_drewN _ _ _⟩⟩
  · have e1 : (bits .and .i64 p.roles x.role == 0) = false := by
      have : (bits .and .i64 p.roles x.role != 0) = true := hbit
      simpa using this
    have HBT := Lib.hid hbit
    clear hbit
    cases hh : hasB p x.role (x.stop - 1)
    · have H : Hid (faultOf ps bs x = 4) := by show _ = _; rw [HP.out, HBT.out, hh]; rfl
      have HH := Lib.hid hh
      clear hh
      go_enter Try.func116, Try.ntmps116
      go_wp2_with fail
      refine (specForm_eq b off x _ c0 c1 c2' c3 c4 hf).mono ?_
      rintro e w1 ⟨rfl, m, rfl⟩
      clear hf
      go_wp2_with fail
      go_quiet (fail)
      generalize hwq : World.drewN _ _ = wq
      obtain ⟨m2, rfl⟩ : ∃ m', wq = w.drewN m' := by
        rw [← hwq]
        first | exact ⟨_, rfl⟩ | exact ⟨_, World.drewN_drewN _ _ _⟩
      clear hwq
      have HC := Lib.hid (fun q => specHas_eq pb (poff + x.person.toNat * 3) p x.role (x.stop - 1) (w.drewN q) p1 p2 HPR.out HR.out S0.out S1.out HH.out)
      clear e1
      have ew := HW.out
      go_wp2_with fail
      go_quiet ((go_at_call 191; exact quiet_add_left (HC.out _)))
      clear HC
      go_wp2
      go_ret
      exact ⟨by rw [H.out]; rfl, by first | exact ⟨_, rfl⟩ | exact ⟨_, World.drewN_drewN _ _ _⟩⟩
    · have HH := Lib.hid hh
      clear hh
      go_enter Try.func116, Try.ntmps116
      go_wp2_with fail
      refine (specForm_eq b off x _ c0 c1 c2' c3 c4 hf).mono ?_
      rintro e w1 ⟨rfl, m, rfl⟩
      clear hf
      go_wp2_with fail
      go_quiet (fail)
      generalize hwq : World.drewN _ _ = wq
      obtain ⟨m2, rfl⟩ : ∃ m', wq = w.drewN m' := by
        rw [← hwq]
        first | exact ⟨_, rfl⟩ | exact ⟨_, World.drewN_drewN _ _ _⟩
      clear hwq
      have HC := Lib.hid (fun q => specHas_eq pb (poff + x.person.toNat * 3) p x.role (x.stop - 1) (w.drewN q) p1 p2 HPR.out HR.out S0.out S1.out HH.out)
      clear e1
      have ew := HW.out
      go_wp2_with fail
      go_quiet ((go_at_call 191; exact quiet_add_left (HC.out _)))
      clear HC
      generalize hwq : World.drewN _ _ = wq
      obtain ⟨m3, rfl⟩ : ∃ m', wq = w.drewN m' := by
        rw [← hwq]
        first | exact ⟨_, rfl⟩ | exact ⟨_, World.drewN_drewN _ _ _⟩
      clear hwq
      clear ew p0 p1 p2 hbl
      go_wp2_with fail
      go_loopw [7] (fun i wr => ∃ k : Nat, k ≤ n2 ∧ i = .int .i64 k ∧ noTo (twiceB x) bs k = true ∧ ∃ q, wr = w.drewN q) (fun i _ => n2 - (intOf i).toNat)
      case atStart => exact ⟨0, Nat.zero_le _, rfl, rfl, _, rfl⟩
      case round =>
        obtain ⟨k, hk, rfl, hno, N, rfl⟩ := hrel
        have HN := Lib.hid hno
        clear hno
        by_cases hlt : k < n2
        · obtain ⟨b4, off4, y, rfl, hy, _, hbl4, d0, d1, d2, d3, d4⟩ := Shift.at h2 hlt
          have HY := Lib.hid hy
          have hk00 : (0 : Int) ≤ (k : Int) := by omega
          have hk1 : (k : Int) < (n2 : Int) := by omega
          clear hy
          rcases twiceB_cases x y with ⟨a1, ao⟩ | ⟨a1, a2, ao⟩ | ⟨a1, a2, a3, ao⟩ | ⟨a1, a2, a3, a4, ao⟩ | ⟨a1, a2, a3, a4, ao⟩
          rotate_left 4
          · have H : Hid (faultOf ps bs x = 5) := by show _ = _; rw [HP.out, HBT.out, HH.out, any_hit HY.out ao]; rfl
            clear ao
            go_wp2
            go_quiet (fail)
            go_wp2
            go_ret
            exact ⟨by rw [H.out]; rfl, by first | exact ⟨_, rfl⟩ | exact ⟨_, World.drewN_drewN _ _ _⟩⟩
          all_goals
            have HO := Lib.hid ao
            clear ao
            go_wp2
            go_quiet (fail)
            go_wp2
            go_roundw
            case rel => exact ⟨k + 1, by omega, by go_num, noTo_step HN.out HY.out HO.out, by first | exact ⟨_, rfl⟩ | exact ⟨_, World.drewN_drewN _ _ _⟩⟩
            case measure => simp [intOf]; omega
        · obtain rfl : k = n2 := by omega
          have HT : Hid (bs.any (twiceB x) = false) := noTo_any (by rw [HL2.out]; exact HN.out)
          clear HN
          go_wp2_with fail
          go_loopw [9] (fun i wr => ∃ j : Nat, j ≤ k ∧ i = .int .i64 j ∧ noTo (restB x) bs j = true ∧ ∃ q, wr = w.drewN q) (fun i _ => k - (intOf i).toNat)
          case atStart => exact ⟨0, Nat.zero_le _, rfl, rfl, _, rfl⟩
          case round =>
            obtain ⟨j, hj, rfl, hno, N2, rfl⟩ := hrel
            have HN := Lib.hid hno
            clear hno
            by_cases hlt2 : j < k
            · obtain ⟨b4, off4, y, rfl, hy, _, hbl4, d0, d1, d2, d3, d4⟩ := Shift.at h2 hlt2
              have HY := Lib.hid hy
              obtain ⟨_, _, _, g4, g5⟩ := fOk_iff (HBS.out y (List.mem_of_getElem? hy))
              have hk00 : (0 : Int) ≤ (j : Int) := by omega
              have hk1 : (j : Int) < (k : Int) := by omega
              have ew3 : IntKind.i64.wrap (y.stop + 11) = y.stop + 11 := IntWalk.i64_in _ ⟨by omega, by omega⟩
              have ew2 := HW2.out
              clear hy
              rcases restB_cases x y with ⟨a1, ao⟩ | ⟨a1, a2, ao⟩ | ⟨a1, a2, a3, ao⟩ | ⟨a1, a2, a3, ao⟩
              rotate_left 3
              · have H : Hid (faultOf ps bs x = 6) := by show _ = _; rw [HP.out, HBT.out, HH.out, HT.out, any_hit HY.out ao]; rfl
                clear ao
                go_wp2
                go_quiet (fail)
                go_wp2
                go_ret
                exact ⟨by rw [H.out]; rfl, by first | exact ⟨_, rfl⟩ | exact ⟨_, World.drewN_drewN _ _ _⟩⟩
              all_goals
                have HO := Lib.hid ao
                clear ao
                go_wp2
                go_quiet (fail)
                clear ew2 ew3
                go_wp2
                go_roundw
                case rel => exact ⟨j + 1, by omega, by go_num, noTo_step HN.out HY.out HO.out, by first | exact ⟨_, rfl⟩ | exact ⟨_, World.drewN_drewN _ _ _⟩⟩
                case measure => simp [intOf]; omega
            · obtain rfl : j = k := by omega
              have HT2 : Hid (bs.any (restB x) = false) := noTo_any (by rw [HL2.out]; exact HN.out)
              have H : Hid (faultOf ps bs x = 0) := by show _ = _; rw [HP.out, HBT.out, HH.out, HT.out, HT2.out]; rfl
              go_wp2
              go_ret
              exact ⟨by rw [H.out]; rfl, by first | exact ⟨_, rfl⟩ | exact ⟨_, World.drewN_drewN _ _ _⟩⟩

theorem specFault_any (A A2 : Option Addr) (n c n2 c2 : Nat) (ps : List Person) (bs : List Shift) (x : Shift) (b off : Nat) (w : World) (lo lo2 : Nat) (h : Arr Person.cs 3 w lo w.heap.size A n ps) (hn : n ≤ 1048576) (h2 : Arr Shift.cs 5 w lo2 w.heap.size A2 n2 bs) (hn2 : n2 ≤ 1048576)
    (hps : ∀ p ∈ ps, pOk p = true) (hbs : ∀ y ∈ bs, fOk y = true)
    (c0 : w.cell? ⟨b, off, none⟩ = some (.int .i64 x.person)) (c1 : w.cell? ⟨b, off + 1, none⟩ = some (.int .i64 x.crane)) (c2' : w.cell? ⟨b, off + 2, none⟩ = some (.int .i64 x.role)) (c3 : w.cell? ⟨b, off + 3, none⟩ = some (.int .i64 x.start)) (c4 : w.cell? ⟨b, off + 4, none⟩ = some (.int .i64 x.stop)) :
    Calls Try.prog 116 #[.slice A n c, .slice A2 n2 c2, .pointer (some ⟨b, off, none⟩)] w (Quiet (.int .i64 (faultOf ps bs x)) w) := by
  cases hf : fOk x
  · exact specFault_1 A A2 n c n2 c2 ps bs x b off w c0 c1 c2' c3 c4 hf
  · by_cases hi : x.person < (n : Int)
    · exact specFault_p A A2 n c n2 c2 ps bs x b off w lo lo2 h hn h2 hn2 hps hbs c0 c1 c2' c3 c4 hf hi
    · exact specFault_2 A A2 n c n2 c2 ps bs x b off w h.1 hn c0 c1 c2' c3 c4 hf (by omega)
end Go.Proofs.Ytdoinbnnpompiaa