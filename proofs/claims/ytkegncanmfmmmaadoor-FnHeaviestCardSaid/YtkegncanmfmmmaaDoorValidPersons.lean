/- ValidPersons of the program and l24Ok of the reference: both say personsOk. Persons as records. -/
import Derived.Test.YtkegncanmfmmmaaDoorRPerson
import Derived.Test.YtkegncanmfmmmaaDoorNames
import Derived.Test.YtkegncanmfmmmaaDoorLow
import Derived.Test.YtkegncanmfmmmaaDoorWords3
namespace Go.Proofs.YtkegncanmfmmmaaDoor
open Go.RowKit
set_option linter.unusedVariables false

theorem toList_beq {s t : ByteArray} : (s.toList == t.toList) = decide (s = t) := by
  rw [Bool.eq_iff_iff]; simp only [beq_iff_eq, decide_eq_true_eq, ByteArray.toList_eq]; exact ba_eq

def pOk (p : Person) : Bool := nmOk p.name && (inB p.roles 0 7 && inB p.till 0 10000)
/-- no person ahead of place i bears that name -/
def newTo (ps : List Person) (i : Nat) (s : ByteArray) : Bool := allTo (fun j => match ps[j]? with | some q => !decide (q.name = s) | none => true) i
def okAt (ps : List Person) (i : Nat) : Bool := match ps[i]? with | some p => pOk p && newTo ps i p.name | none => true
def personsOk (ps : List Person) : Bool := allTo (okAt ps) ps.length && decide (ps.length ≤ 30)
theorem okAt_of {ps : List Person} {i : Nat} {p : Person} (h : ps[i]? = some p) : okAt ps i = (pOk p && newTo ps i p.name) := by simp only [okAt, h]
theorem personsOk_bad {ps : List Person} {i : Nat} {p : Person} (h : ps[i]? = some p) (hb : (pOk p && newTo ps i p.name) = false) : personsOk ps = false := by
  unfold personsOk; rw [allTo_bad (List.getElem?_eq_some_iff.1 h).1 (by rw [okAt_of h]; exact hb)]; rfl
theorem newTo_succ {ps : List Person} {i : Nat} {p : Person} (h : ps[i]? = some p) (s : ByteArray) : newTo ps (i + 1) s = (newTo ps i s && !decide (p.name = s)) := by
  unfold newTo; rw [allTo_succ]; simp only [h]

/-- what the set of names knows behind k persons -/
theorem newTo_set {ps : List Person} {i : Nat} {p : Person} (h : ps[i]? = some p) (r : ByteArray) : (decide (r = p.name) || !newTo ps i r) = !newTo ps (i + 1) r := by
  rw [newTo_succ h, Bool.not_and, Bool.not_not, Bool.or_comm]
  congr 1
  exact decide_eq_decide.2 ⟨fun h => h.symm, fun h => h.symm⟩

theorem pOk_cases (p : Person) : (nmOk p.name = false ∧ pOk p = false) ∨ (nmOk p.name = true ∧ inB p.roles 0 7 = false ∧ pOk p = false) ∨ (nmOk p.name = true ∧ inB p.roles 0 7 = true ∧ inB p.till 0 10000 = false ∧ pOk p = false) ∨ (nmOk p.name = true ∧ inB p.roles 0 7 = true ∧ inB p.till 0 10000 = true ∧ pOk p = true) := by
  unfold pOk
  cases nmOk p.name <;> cases inB p.roles 0 7 <;> cases inB p.till 0 10000 <;> simp

theorem zero4 (w : World) : (zeroValue 4).run Tryd.prog w = .ok (.bool false) w := by kernel_rfl

set_option maxHeartbeats 1600000 in
theorem validPersons_any (A : Option Addr) (n c : Nat) (ps : List Person) (w : World) (lo : Nat) (h : Arr Person.cs 3 w lo w.heap.size A n ps) (hn : n ≤ 1048576) (hp : ∀ p ∈ ps, p.wf) :
    Calls Tryd.prog 61 #[.slice A n c] w fun e w' => e = .returned (.bool (personsOk ps)) ∧ Below w.heap.size w w' := by
  have hmm := @run_makeMap Tryd.prog
  go_enter Tryd.func61, Tryd.ntmps61
  go_wp2
  clear hmm
  go_loopw [9] (fun i wr => ∃ k : Nat, k ≤ n ∧ i = .int .i64 k ∧ StrSet Tryd.prog 9 4 wr w.heap.size k (fun r => !newTo ps k r) ∧ allTo (okAt ps) k = true ∧ Below w.heap.size w wr) (fun i _ => n - (intOf i).toNat)
  case atStart => exact ⟨0, Nat.zero_le _, rfl, (StrSet.made w).to fun _ => rfl, rfl, (Below.refl _ _).alloc (Nat.le_refl _) _⟩
  case round =>
    obtain ⟨k, hk, rfl, hset, hall, hb⟩ := hrel
    have HA := Lib.hid hall
    clear hall
    by_cases hlt : k < n
    · obtain ⟨b, off, p, rfl, hx, _, hbl, c0, c1, c2⟩ := Person.at (h.below hb) hlt
      have hpn := (hp p (List.mem_of_getElem? hx)).name
      have HX := Lib.hid hx
      have hsz := hb.size
      have hlook : ∀ o, (Instr.lookup 146 (.map (some w.heap.size)) (.string p.name) false).run Tryd.prog (wr.alloc o) = .ok (.bool (!newTo ps k p.name)) (wr.alloc o) :=
        fun o => (hset.alloc o).look Tryd.underlying146 Tryd.underlying9 Tryd.underlying4 (zero4 _) hpn
      clear hx
      rcases pOk_cases p with ⟨a1, ao⟩ | ⟨a1, a2, ao⟩ | ⟨a1, a2, a3, ao⟩ | ⟨a1, a2, a3, ao⟩
      · have HO := Lib.hid ao; clear ao
        go_wp2_with (first | (go_at_call 109; refine (isName_any _ _ hpn).mono ?_; rintro e w1 ⟨rfl, rfl⟩) | (go_at_call 77; refine (within_any _ _ _ _).mono ?_; rintro e w1 ⟨rfl, rfl⟩))
        go_ret
        exact ⟨by rw [personsOk_bad HX.out (by rw [HO.out]; rfl)]; rfl, hb.alloc hb.size _⟩
      · have HO := Lib.hid ao; clear ao
        cases hq : newTo ps k p.name
        all_goals
          go_wp2_with (first | (go_at_call 109; refine (isName_any _ _ hpn).mono ?_; rintro e w1 ⟨rfl, rfl⟩) | (go_at_call 77; refine (within_any _ _ _ _).mono ?_; rintro e w1 ⟨rfl, rfl⟩))
          go_ret
          exact ⟨by rw [personsOk_bad HX.out (by rw [HO.out]; rfl)]; rfl, hb.alloc hb.size _⟩
      · have HO := Lib.hid ao; clear ao
        cases hq : newTo ps k p.name
        all_goals
          go_wp2_with (first | (go_at_call 109; refine (isName_any _ _ hpn).mono ?_; rintro e w1 ⟨rfl, rfl⟩) | (go_at_call 77; refine (within_any _ _ _ _).mono ?_; rintro e w1 ⟨rfl, rfl⟩))
          go_ret
          exact ⟨by rw [personsOk_bad HX.out (by rw [HO.out]; rfl)]; rfl, hb.alloc hb.size _⟩
      · have HO := Lib.hid ao; clear ao
        cases hq : newTo ps k p.name
        · have HQ := Lib.hid hq
          go_wp2_with (first | (go_at_call 109; refine (isName_any _ _ hpn).mono ?_; rintro e w1 ⟨rfl, rfl⟩) | (go_at_call 77; refine (within_any _ _ _ _).mono ?_; rintro e w1 ⟨rfl, rfl⟩))
          go_ret
          exact ⟨by rw [personsOk_bad HX.out (by rw [HO.out, HQ.out]; rfl)]; rfl, hb.alloc hb.size _⟩
        · have HQ := Lib.hid hq
          go_wp2_with (first | (go_at_call 109; refine (isName_any _ _ hpn).mono ?_; rintro e w1 ⟨rfl, rfl⟩) | (go_at_call 77; refine (within_any _ _ _ _).mono ?_; rintro e w1 ⟨rfl, rfl⟩) | (at_mapUpdate; refine wpList_put_str rfl _ _ _ 146 rfl 9 4 Tryd.underlying146 Tryd.underlying9 Tryd.underlying4 w.heap.size k _ rfl (hset.alloc _) (by omega) p.name rfl rfl hpn ?_; intro w1 hset1 hgrow1))
          go_roundw
          case rel => exact ⟨k + 1, by omega, by go_num, hset1.to (newTo_set HX.out), allTo_step HA.out (by rw [okAt_of HX.out, HO.out, HQ.out]; rfl), (hb.alloc hb.size _).grown hgrow1 (by simp; omega) (fun j hj => by cases hj; exact Nat.le_refl _)⟩
          case measure => simp [intOf]; omega
    · obtain rfl : k = n := by omega
      have HL : Hid (personsOk ps = decide ((k : Int) ≤ 30)) := by
        show _ = _
        unfold personsOk; rw [h.1, HA.out]; simp; omega
      go_wp2
      go_ret
      exact ⟨by rw [HL.out]; rfl, hb⟩

set_option maxHeartbeats 1600000 in
theorem specOk_any (A : Option Addr) (n c : Nat) (ps : List Person) (w : World) (lo : Nat) (h : Arr Person.cs 3 w lo w.heap.size A n ps) (hn : n ≤ 1048576) (hp : ∀ p ∈ ps, p.wf) :
    Calls Tryd.prog 56 #[.slice A n c] w fun e w' => e = .returned (.bool (personsOk ps)) ∧ Below w.heap.size w w' := by
  go_enter Tryd.func56, Tryd.ntmps56
  go_wp2
  go_loopw [3] (fun i wr => ∃ k : Nat, k ≤ n ∧ i = .int .i64 k ∧ allTo (okAt ps) k = true ∧ Below w.heap.size w wr) (fun i _ => n - (intOf i).toNat)
  case atStart => exact ⟨0, Nat.zero_le _, rfl, rfl, Below.refl _ _⟩
  case round =>
    obtain ⟨k, hk, rfl, hall, hb⟩ := hrel
    have HA := Lib.hid hall
    clear hall
    by_cases hlt : k < n
    · obtain ⟨b, off, p, rfl, hx, _, hbl, c0, c1, c2⟩ := Person.at (h.below hb) hlt
      have hpn := (hp p (List.mem_of_getElem? hx)).name
      have HX := Lib.hid hx
      clear hx
      rcases pOk_cases p with ⟨a1, ao⟩ | ⟨a1, a2, ao⟩ | ⟨a1, a2, a3, ao⟩ | ⟨a1, a2, a3, ao⟩
      · have HO := Lib.hid ao; clear ao
        go_wp2_with (first | (go_at_call 81; refine (specName_any _ _ hpn).mono ?_; rintro e w1 ⟨rfl, rfl⟩) | (go_at_call 82; refine (l00In_any _ _ _ _).mono ?_; rintro e w1 ⟨rfl, rfl⟩))
        go_ret
        exact ⟨by rw [personsOk_bad HX.out (by rw [HO.out]; rfl)]; rfl, hb⟩
      · have HO := Lib.hid ao; clear ao
        go_wp2_with (first | (go_at_call 81; refine (specName_any _ _ hpn).mono ?_; rintro e w1 ⟨rfl, rfl⟩) | (go_at_call 82; refine (l00In_any _ _ _ _).mono ?_; rintro e w1 ⟨rfl, rfl⟩))
        go_ret
        exact ⟨by rw [personsOk_bad HX.out (by rw [HO.out]; rfl)]; rfl, hb⟩
      · have HO := Lib.hid ao; clear ao
        go_wp2_with (first | (go_at_call 81; refine (specName_any _ _ hpn).mono ?_; rintro e w1 ⟨rfl, rfl⟩) | (go_at_call 82; refine (l00In_any _ _ _ _).mono ?_; rintro e w1 ⟨rfl, rfl⟩))
        go_ret
        exact ⟨by rw [personsOk_bad HX.out (by rw [HO.out]; rfl)]; rfl, hb⟩
      · have HO := Lib.hid ao; clear ao
        go_wp2_with (first | (go_at_call 81; refine (specName_any _ _ hpn).mono ?_; rintro e w1 ⟨rfl, rfl⟩) | (go_at_call 82; refine (l00In_any _ _ _ _).mono ?_; rintro e w1 ⟨rfl, rfl⟩))
        clear a1 a2 a3 c1 c2
        have hkn : (k : Int) < (n : Int) := by omega
        obtain ⟨wo, hwo⟩ : ∃ wo : World, wo = wr := ⟨_, rfl⟩
        subst hwo
        go_loopw [5] (fun i wr => ∃ j : Nat, j ≤ k ∧ i = .int .i64 j ∧ newTo ps j p.name = true ∧ Below w.heap.size w wr) (fun i _ => k - (intOf i).toNat)
        case atStart => exact ⟨0, Nat.zero_le _, rfl, rfl, hb⟩
        case round =>
          obtain ⟨j, hj, rfl, hnew, hb2⟩ := hrel
          have HN := Lib.hid hnew
          clear hnew c0
          by_cases hjk : j < k
          · obtain ⟨b2, off2, q, e2, hx2, _, _, d0, _, _⟩ := Person.at (h.below hb2) (show j < n by omega)
            obtain ⟨b3, off3, p3, e3, hx3, _, _, c0, _, _⟩ := Person.at (h.below hb2) hlt
            cases e2; cases e3
            obtain rfl : p = p3 := by have := HX.out; rw [hx3] at this; exact (Option.some.inj this).symm
            have HX2 := Lib.hid hx2
            clear hx2 hx3
            have hj0 : (0 : Int) ≤ (j : Int) := by omega
            have hjn : (j : Int) < (n : Int) := by omega
            by_cases hq : q.name = p.name
            · have HQ := Lib.hid hq
              have hqq : (q.name.toList == p.name.toList) = true := by rw [toList_beq]; exact decide_eq_true hq
              clear hq
              go_wp2
              go_quiet (fail)
              go_wp2
              go_ret
              exact ⟨by rw [personsOk_bad HX.out (by rw [HO.out]; unfold newTo; rw [allTo_bad hjk (by simp only [HX2.out, HQ.out]; simp)]; rfl)]; rfl, bel_drewN hb2 _⟩
            · have HQ := Lib.hid hq
              have hqq : (q.name.toList == p.name.toList) = false := by rw [toList_beq]; exact decide_eq_false hq
              clear hq
              go_wp2
              go_quiet (fail)
              go_wp2
              go_roundw
              case rel => exact ⟨j + 1, by omega, by go_num, by rw [newTo_succ HX2.out, HN.out, decide_eq_false HQ.out]; rfl, bel_drewN hb2 _⟩
              case measure => simp [intOf]; omega
          · obtain rfl : j = k := by omega
            go_wp2
            go_roundw
            case rel => exact ⟨j + 1, by omega, by go_num, allTo_step HA.out (by rw [okAt_of HX.out, HO.out, HN.out]; rfl), hb2⟩
            case measure => simp [intOf]; omega
    · obtain rfl : k = n := by omega
      have HL : Hid (personsOk ps = decide ((k : Int) ≤ 30)) := by
        show _ = _
        unfold personsOk; rw [h.1, HA.out]; simp; omega
      go_wp2
      go_ret
      exact ⟨by rw [HL.out]; rfl, hb⟩

end Go.Proofs.YtkegncanmfmmmaaDoor
