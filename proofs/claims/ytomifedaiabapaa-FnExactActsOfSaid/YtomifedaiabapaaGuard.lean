/- GuardAllows of the program and what it calls. -/
import Derived.Test.YtomifedaiabapaaGuardLaw
import Derived.Test.YtomifedaiabapaaRWatch
import Derived.Deep.RegionHeld3
namespace Go.Proofs.Ytomifedaiabapaa
open Go.RowKit
set_option linter.unusedVariables false

theorem isDir_any (d : Int) (w : World) : Calls Try.prog 174 #[.int .i64 d] w fun e w' => e = .returned (.bool (inB d 0 23)) ∧ w = w' := by
  go_enter Try.func174, Try.ntmps174
  go_wp2_with (go_at_call 94; refine (within_any _ _ _ _).mono ?_; rintro e w1 ⟨rfl, rfl⟩)
  go_ret
  exact ⟨rfl, rfl⟩
theorem l02Dir_any (d : Int) (w : World) : Calls Try.prog 220 #[.int .i64 d] w fun e w' => e = .returned (.bool (inB d 0 23)) ∧ w = w' := by
  go_enter Try.func220, Try.ntmps220
  go_wp2_with (go_at_call 97; refine (l00In_any _ _ _ _).mono ?_; rintro e w1 ⟨rfl, rfl⟩)
  go_ret
  exact ⟨rfl, rfl⟩
def wOk (v : Watch) : Bool := inB v.margin 0 3 && inB v.lost 0 1
theorem wOk_cases (v : Watch) : (inB v.margin 0 3 = false ∧ wOk v = false) ∨ (inB v.margin 0 3 = true ∧ wOk v = inB v.lost 0 1) := by
  unfold wOk; cases inB v.margin 0 3 <;> simp
theorem watchValid_any (v : Watch) (w : World) : Calls Try.prog 173 #[.agg #[.int .i64 v.margin, .int .i64 v.lost]] w fun e w' => e = .returned (.bool (wOk v)) ∧ Below w.heap.size w w' := by
  rcases wOk_cases v with ⟨a1, ao⟩ | ⟨a1, ao⟩
  all_goals
    have HO := Lib.hid ao
    clear ao
    go_enter Try.func173, Try.ntmps173
    go_wp2_with (go_at_call 94; refine (within_any _ _ _ _).mono ?_; rintro e w1 ⟨rfl, rfl⟩)
    go_ret
    exact ⟨by rw [HO.out]; rfl, (Below.refl _ _).alloc (Nat.le_refl _) _⟩
theorem l19Watch_any (v : Watch) (w : World) : Calls Try.prog 167 #[.agg #[.int .i64 v.margin, .int .i64 v.lost]] w fun e w' => e = .returned (.bool (wOk v)) ∧ Below w.heap.size w w' := by
  rcases wOk_cases v with ⟨a1, ao⟩ | ⟨a1, ao⟩
  all_goals
    have HO := Lib.hid ao
    clear ao
    go_enter Try.func167, Try.ntmps167
    go_wp2_with (go_at_call 97; refine (l00In_any _ _ _ _).mono ?_; rintro e w1 ⟨rfl, rfl⟩)
    go_ret
    exact ⟨by rw [HO.out]; rfl, (Below.refl _ _).alloc (Nat.le_refl _) _⟩

theorem rowBad_any (r : Row Bool) (w : World) : Calls Try.prog 172 #[.slice r.a r.n r.cap] w fun e w' => e = .returned (.bool (rowBad r)) ∧ w = w' := by
  have H : Hid (rowBad r = ((r.n : Int) != 24)) := by
    show _ = _
    unfold rowBad
    rw [Bool.eq_iff_iff]; simp; omega
  go_enter Try.func172, Try.ntmps172
  go_wp2
  go_ret
  exact ⟨by rw [H.out]; rfl, rfl⟩
set_option maxHeartbeats 800000 in
theorem indexRow_any (A : Option Addr) (n c : Nat) (rs : List (Row Bool)) (w : World) (lo : Nat) (h : Arr2 bc 1 w lo w.heap.size A n rs) (hn : n ≤ 9223372036854775807) :
    Calls Try.prog 223 #[.slice A n c, .func (.func 172) #[] #[]] w fun e w' => e = .returned (.int .i64 (fIdx rowBad rs)) ∧ w = w' := by
  go_enter Try.func223, Try.ntmps223
  go_wp2
  go_loop [8] (fun i => ∃ k : Nat, k ≤ n ∧ i = .int .i64 k ∧ noTo rowBad rs k = true) (fun i => n - (intOf i).toNat)
  case atStart => exact ⟨0, Nat.zero_le _, rfl, rfl⟩
  case round =>
    obtain ⟨k, hk, rfl, hno⟩ := hrel
    have HN := Lib.hid hno
    clear hno
    by_cases hlt : k < n
    · obtain ⟨b, off, r, rfl, hx, _, hbl, c0, _⟩ := h.at hlt
      have HX := Lib.hid hx
      clear hx
      cases hq : rowBad r
      · have HQ := Lib.hid hq
        go_wp2_with (go_at_call 172; refine (rowBad_any r _).mono ?_; rintro e w1 ⟨rfl, rfl⟩)
        go_round
        case rel => exact ⟨k + 1, by omega, by go_num, noTo_step HN.out HX.out HQ.out⟩
        case measure => simp [intOf]; omega
      · have HQ := Lib.hid hq
        go_wp2_with (go_at_call 172; refine (rowBad_any r _).mono ?_; rintro e w1 ⟨rfl, rfl⟩)
        go_ret
        exact ⟨by rw [fIdx_hit HN.out HX.out HQ.out]; rfl, rfl⟩
    · obtain rfl : k = n := by omega
      have HE : Hid (fIdx rowBad rs = -1) := fIdx_none (by rw [h.len]; exact HN.out)
      go_wp2
      go_ret
      exact ⟨by rw [HE.out]; rfl, rfl⟩
theorem containsRow_any (A : Option Addr) (n c : Nat) (rs : List (Row Bool)) (w : World) (lo : Nat) (h : Arr2 bc 1 w lo w.heap.size A n rs) (hn : n ≤ 9223372036854775807) :
    Calls Try.prog 171 #[.slice A n c, .func (.func 172) #[] #[]] w fun e w' => e = .returned (.bool (rs.any rowBad)) ∧ w = w' := by
  have HA : Hid (rs.any rowBad = decide (0 ≤ fIdx rowBad rs)) := any_fIdx rowBad rs
  go_enter Try.func171, Try.ntmps171
  go_wp2_with fail
  refine (indexRow_any A n c rs _ lo h hn).mono ?_
  rintro e w1 ⟨rfl, rfl⟩
  go_wp2
  go_ret
  exact ⟨by rw [HA.out]; rfl, rfl⟩
theorem validTable_any (A : Option Addr) (n c : Nat) (rs : List (Row Bool)) (w : World) (lo : Nat) (h : Arr2 bc 1 w lo w.heap.size A n rs) (hn : n ≤ 9223372036854775807) :
    Calls Try.prog 121 #[.slice A n c] w fun e w' => e = .returned (.bool (tabOk rs)) ∧ w = w' := by
  have hl := h.len
  by_cases h24 : n = 24
  · have b24 : ((n : Int) == 24) = true := beq_iff_eq.2 (by omega)
    have H : Hid (tabOk rs = !(rs.any rowBad)) := by show _ = _; unfold tabOk; rw [hl, decide_eq_true h24]; rfl
    clear h24 hl
    go_enter Try.func121, Try.ntmps121
    go_wp2_with (go_at_call 171; refine (containsRow_any A n c rs _ lo h hn).mono ?_; rintro e w1 ⟨rfl, rfl⟩)
    go_ret
    exact ⟨by rw [H.out]; rfl, rfl⟩
  · have b24 : ((n : Int) == 24) = false := beq_eq_false_iff_ne.2 (by omega)
    have H : Hid (tabOk rs = false) := by show _ = _; unfold tabOk; rw [hl, decide_eq_false h24]; rfl
    go_enter Try.func121, Try.ntmps121
    go_wp2
    go_ret
    exact ⟨by rw [H.out]; rfl, rfl⟩

theorem mod24 {m : Int} (h0 : -30 ≤ m) (h1 : m ≤ 60) : Int.tmod (wrap64 (Int.tmod m 24 + 24)) 24 = m % 24 := by
  by_cases hn : m < 0
  · have e1 : Int.tmod m 24 = -((-m) % 24) := by
      have : m = -(-m) := by omega
      rw [this, Int.neg_tmod, Int.tmod_eq_emod_of_nonneg (by omega)]; simp
    have e2 : wrap64 (Int.tmod m 24 + 24) = Int.tmod m 24 + 24 := IntWalk.wrap64_in _ ⟨by omega, by omega⟩
    rw [e2, e1, Int.tmod_eq_emod_of_nonneg (by omega)]; omega
  · have e1 : Int.tmod m 24 = m % 24 := Int.tmod_eq_emod_of_nonneg (by omega)
    have e2 : wrap64 (Int.tmod m 24 + 24) = Int.tmod m 24 + 24 := IntWalk.wrap64_in _ ⟨by omega, by omega⟩
    rw [e2, e1, Int.tmod_eq_emod_of_nonneg (by omega)]; omega
def tnI (s o : Nat) : Int := if 12 < (o + 24 - s) % 24 then (((o + 24 - s) % 24 : Nat) : Int) - 24 else (((o + 24 - s) % 24 : Nat) : Int)
theorem turned_any (s o : Nat) (hs : s < 24) (ho : o < 24) (w : World) : Calls Try.prog 178 #[.int .i64 o, .int .i64 (-(s : Int))] w fun e w' => e = .returned (.int .i64 ((o + 24 - s) % 24 : Nat)) ∧ w = w' := by
  go_enter Try.func178, Try.ntmps178
  have HM : Hid (Int.tmod (wrap64 (Int.tmod ((o : Int) + -(s : Int)) 24 + 24)) 24 = (((o + 24 - s) % 24 : Nat) : Int)) := by show _ = _; rw [mod24 (by omega) (by omega)]; omega
  go_wp2
  go_ret
  exact ⟨by rw [← HM.out]; rfl, rfl⟩
theorem l02Mod_any (m : Int) (h0 : -30 ≤ m) (h1 : m ≤ 60) (w : World) : Calls Try.prog 170 #[.int .i64 m] w fun e w' => e = .returned (.int .i64 (m % 24)) ∧ w = w' := by
  go_enter Try.func170, Try.ntmps170
  have HM : Hid (Int.tmod (wrap64 (Int.tmod m 24 + 24)) 24 = m % 24) := mod24 h0 h1
  go_wp2
  go_ret
  exact ⟨by rw [← HM.out]; rfl, rfl⟩
theorem turnBetween_any (s o : Nat) (hs : s < 24) (ho : o < 24) (w : World) : Calls Try.prog 176 #[.int .i64 s, .int .i64 o] w fun e w' => e = .returned (.int .i64 (tnI s o)) ∧ w = w' := by
  have HT : Hid (tnI s o = if 12 < (o + 24 - s) % 24 then (((o + 24 - s) % 24 : Nat) : Int) - 24 else (((o + 24 - s) % 24 : Nat) : Int)) := rfl
  have hc := fun W => turned_any s o hs ho W
  have hlt : (o + 24 - s) % 24 < 24 := Nat.mod_lt _ (by omega)
  generalize (o + 24 - s) % 24 = T at *
  by_cases h12 : 12 < T
  · have H : Hid (tnI s o = (T : Int) - 24) := by show _ = _; rw [HT.out, if_pos h12]
    go_enter Try.func176, Try.ntmps176
    go_wp2_with (go_at_call 178; refine (hc _).mono ?_; rintro e w1 ⟨rfl, rfl⟩)
    go_ret
    exact ⟨by rw [H.out]; rfl, rfl⟩
  · have H : Hid (tnI s o = (T : Int)) := by show _ = _; rw [HT.out, if_neg h12]
    go_enter Try.func176, Try.ntmps176
    go_wp2_with (go_at_call 178; refine (hc _).mono ?_; rintro e w1 ⟨rfl, rfl⟩)
    go_ret
    exact ⟨by rw [H.out]; rfl, rfl⟩
theorem absG_any (n : Int) (h0 : -30 ≤ n) (h1 : n ≤ 30) (w : World) : Calls Try.prog 175 #[.int .i64 n] w fun e w' => e = .returned (.int .i64 (if 0 ≤ n then n else -n)) ∧ w = w' := by
  by_cases h : 0 ≤ n
  · have H : Hid ((if 0 ≤ n then n else -n) = n) := if_pos h
    go_enter Try.func175, Try.ntmps175
    go_wp2
    go_ret
    exact ⟨by first | rfl | (rw [H.out]; rfl), rfl⟩
  · have H : Hid ((if 0 ≤ n then n else -n) = -n) := if_neg h
    go_enter Try.func175, Try.ntmps175
    go_wp2
    go_ret
    exact ⟨by first | rfl | (rw [H.out]; rfl), rfl⟩
theorem absT_of (s o : Nat) : (if 0 ≤ tnI s o then tnI s o else -tnI s o) = (absT s o : Int) := by
  have hlt : (o + 24 - s) % 24 < 24 := Nat.mod_lt _ (by omega)
  unfold tnI absT
  generalize (o + 24 - s) % 24 = T at *
  by_cases h : 12 < T
  · rw [if_pos h, if_pos h, if_neg (by omega)]; omega
  · rw [if_neg h, if_neg h, if_pos (by omega)]
theorem tnI_range (s o : Nat) : -30 ≤ tnI s o ∧ tnI s o ≤ 30 := by
  have hlt : (o + 24 - s) % 24 < 24 := Nat.mod_lt _ (by omega)
  unfold tnI; split <;> omega

/-- clear: no direction near the seen one is hit -/
theorem rows24 {rs : List (Row Bool)} (ht : tabOk rs = true) {i : Nat} {r : Row Bool} (hr : rs[i]? = some r) : r.n = 24 := by
  unfold tabOk at ht
  simp only [Bool.and_eq_true, Bool.not_eq_true', List.any_eq_false] at ht
  have := ht.2 r (List.mem_of_getElem? hr)
  unfold rowBad at this; simpa using this
theorem tabOk_len {rs : List (Row Bool)} (ht : tabOk rs = true) : rs.length = 24 := by
  unfold tabOk at ht; simp only [Bool.and_eq_true, decide_eq_true_eq] at ht; exact ht.1
/-- the cell at row i, column j -/
theorem tb_cell {w : World} {lo hi : Nat} {A : Option Addr} {n : Nat} {rs : List (Row Bool)} (h : Arr2 bc 1 w lo hi A n rs) (ht : tabOk rs = true) {i j : Nat} (hi' : i < 24) (hj : j < 24) :
    ∃ b off b2 off2 cap, A = some ⟨b, off, none⟩ ∧ w.cell? ⟨b, off + i, none⟩ = some (.slice (some ⟨b2, off2, none⟩) 24 cap) ∧ w.cell? ⟨b2, off2 + j, none⟩ = some (.bool (tb rs i j)) := by
  have hl := tabOk_len ht
  obtain ⟨b, off, r, e1, hr, _, _, c0, ha⟩ := h.at (show i < n by rw [← h.len]; omega)
  have h24 := rows24 ht hr
  rw [h24] at ha c0
  obtain ⟨b2, off2, p, e2, hp, _, _, d0⟩ := Bools.at ha hj
  rw [e2] at c0
  exact ⟨b, off, b2, off2, r.cap, e1, c0, by rw [tb_of hr hp]; exact d0⟩
set_option maxRecDepth 100000 in
set_option maxHeartbeats 1600000 in
theorem clear_any (A : Option Addr) (n c : Nat) (rs : List (Row Bool)) (first : Bool) (d s m : Nat) (hd : d < 24) (hs : s < 24) (hm : m < 4) (w : World) (lo : Nat) (h : Arr2 bc 1 w lo w.heap.size A n rs) (ht : tabOk rs = true) :
    Calls Try.prog 177 #[.slice A n c, .bool first, .int .i64 d, .int .i64 s, .int .i64 m] w fun e w' => e = .returned (.bool (allTo (clearAt (hit rs first d) s m) 24)) ∧ w = w' := by
  have hn : n = 24 := by rw [← h.len]; exact tabOk_len ht
  subst hn
  obtain ⟨b, off, b2, off2, cap, rfl, _, _⟩ := tb_cell h ht (i := 0) (j := 0) (by omega) (by omega)
  go_enter Try.func177, Try.ntmps177
  go_wp2
  go_loop [12] (fun i => ∃ k : Nat, k ≤ 24 ∧ i = .int .i64 k ∧ allTo (clearAt (hit rs first d) s m) k = true) (fun i => 24 - (intOf i).toNat)
  case atStart => exact ⟨0, by omega, rfl, rfl⟩
  case round =>
    obtain ⟨k, hk, rfl, hall⟩ := hrel
    have HA := Lib.hid hall
    clear hall
    by_cases hlt : k < 24
    · have hlt2 : (k : Int) < 24 := by omega
      have HT := Lib.hid (absT_of s k)
      have hr := tnI_range s k
      have habs := fun W => absG_any (tnI s k) hr.1 hr.2 W
      rw [HT.out] at habs
      clear hr
      have HC : Hid (clearAt (hit rs first d) s m k = !(decide (absT s k ≤ m) && hit rs first d k)) := rfl
      generalize absT s k = T at *
      have HABS := Lib.hid habs
      clear habs
      by_cases hT : T ≤ m
      · have hd0 : (0 : Int) ≤ (d : Int) := by omega
        have hd1 : (d : Int) < 24 := by omega
        have hk0 : (0 : Int) ≤ (k : Int) := by omega
        cases first
        · obtain ⟨b3, off3, b4, off4, cap4, e3, q0, q1⟩ := tb_cell h ht (i := k) (j := d) (by omega) (by omega)
          cases e3
          have HV : Hid (hit rs false d k = tb rs k d) := rfl
          generalize tb rs k d = v at *
          cases v
          · go_wp2_with (first | (go_at_call 176; refine (turnBetween_any s k hs hlt _).mono ?_; rintro e w1 ⟨rfl, rfl⟩) | (go_at_call 175; refine (HABS.out _).mono ?_; rintro e w1 ⟨rfl, rfl⟩))
            go_round
            case rel => exact ⟨k + 1, by omega, by go_num, allTo_step HA.out (by rw [HC.out, HV.out]; simp)⟩
            case measure => simp [intOf]; omega
          · go_wp2_with (first | (go_at_call 176; refine (turnBetween_any s k hs hlt _).mono ?_; rintro e w1 ⟨rfl, rfl⟩) | (go_at_call 175; refine (HABS.out _).mono ?_; rintro e w1 ⟨rfl, rfl⟩))
            go_ret
            exact ⟨by rw [allTo_bad (k := k) hlt (by rw [HC.out, HV.out, decide_eq_true hT]; rfl)]; rfl, rfl⟩
        · obtain ⟨b3, off3, b4, off4, cap4, e3, q0, q1⟩ := tb_cell h ht (i := d) (j := k) (by omega) (by omega)
          cases e3
          have HV : Hid (hit rs true d k = tb rs d k) := rfl
          generalize tb rs d k = v at *
          cases v
          · go_wp2_with (first | (go_at_call 176; refine (turnBetween_any s k hs hlt _).mono ?_; rintro e w1 ⟨rfl, rfl⟩) | (go_at_call 175; refine (HABS.out _).mono ?_; rintro e w1 ⟨rfl, rfl⟩))
            go_round
            case rel => exact ⟨k + 1, by omega, by go_num, allTo_step HA.out (by rw [HC.out, HV.out]; simp)⟩
            case measure => simp [intOf]; omega
          · go_wp2_with (first | (go_at_call 176; refine (turnBetween_any s k hs hlt _).mono ?_; rintro e w1 ⟨rfl, rfl⟩) | (go_at_call 175; refine (HABS.out _).mono ?_; rintro e w1 ⟨rfl, rfl⟩))
            go_ret
            exact ⟨by rw [allTo_bad (k := k) hlt (by rw [HC.out, HV.out, decide_eq_true hT]; rfl)]; rfl, rfl⟩
      · go_wp2_with (first | (go_at_call 176; refine (turnBetween_any s k hs hlt _).mono ?_; rintro e w1 ⟨rfl, rfl⟩) | (go_at_call 175; refine (HABS.out _).mono ?_; rintro e w1 ⟨rfl, rfl⟩))
        go_round
        case rel => exact ⟨k + 1, by omega, by go_num, allTo_step HA.out (by rw [HC.out, decide_eq_false hT]; rfl)⟩
        case measure => simp [intOf]; omega
    · obtain rfl : k = 24 := by omega
      go_wp2
      go_ret
      exact ⟨by rw [HA.out]; rfl, rfl⟩
end Go.Proofs.Ytomifedaiabapaa
