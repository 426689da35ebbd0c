/- SamePersons, of the reference and of the program: both say samePs. -/
import Derived.Test.YtfghhginmgifaaaRPerson
import Derived.Test.YtfghhginmgifaaaValidPersons
namespace Go.Proofs.Ytfghhginmgifaaa
open Go.RowKit
set_option linter.unusedVariables false

def pSame (p q : Person) : Bool := decide (p.name = q.name) && (decide (p.roles = q.roles) && decide (p.till = q.till))
theorem zeroStoodPerson : Try.prog.stoodInHeld 34 = false := by kernel_rfl
theorem fieldsPerson : Try.prog.underlying 34 = some (.struct (Try.prog.fieldsOf 34)) := by kernel_rfl
theorem run_neq_Person (p q : Person) (w : World) : (binOp .neq 34 (.agg #[.string p.name, .int .i64 p.roles, .int .i64 p.till]) (.agg #[.string q.name, .int .i64 q.roles, .int .i64 q.till])).run Try.prog w = .ok (.bool (!pSame p q)) w := by
  rw [run_neq_struct]
  have hs := Try.underlying9
  have hi := Try.underlying2
  simp [go_sem]
  by_cases h1 : p.name = q.name
  · by_cases h2 : p.roles = q.roles <;> by_cases h3 : p.till = q.till <;> simp [pSame, h1, h2, h3]
  · have h1' : ¬ p.name.toList = q.name.toList := fun h => h1 (ba_eq.1 (by simpa [ByteArray.toList_eq] using h))
    simp [pSame, h1, h1']

def samePs (ps qs : List Person) : Bool := decide (ps.length = qs.length) && allTo (fun i => match ps[i]?, qs[i]? with | some p, some q => pSame p q | _, _ => true) ps.length
theorem samePs_no {ps qs : List Person} (h : ps.length ≠ qs.length) : samePs ps qs = false := by simp [samePs, h]
theorem samePs_bad {ps qs : List Person} {k : Nat} {p q : Person} (hp : ps[k]? = some p) (hq : qs[k]? = some q) (h : pSame p q = false) : samePs ps qs = false := by
  unfold samePs; rw [allTo_bad (List.getElem?_eq_some_iff.1 hp).1 (by simp only [hp, hq, h])]; simp
def samePsTo (ps qs : List Person) (k : Nat) : Bool := allTo (fun i => match ps[i]?, qs[i]? with | some p, some q => pSame p q | _, _ => true) k
theorem samePsTo_step {ps qs : List Person} {k : Nat} {p q : Person} (h : samePsTo ps qs k = true) (hp : ps[k]? = some p) (hq : qs[k]? = some q) (hs : pSame p q = true) : samePsTo ps qs (k + 1) = true := allTo_step h (by simp only [hp, hq, hs])

set_option maxHeartbeats 1600000 in
theorem specSamePersons_any (A A2 : Option Addr) (n n2 c c2 : Nat) (ps qs : List Person) (w : World) (lo lo2 : Nat) (h : Arr Person.cs 3 w lo w.heap.size A n ps) (h2 : Arr Person.cs 3 w lo2 w.heap.size A2 n2 qs) (hn : n ≤ 1048576) (hn2 : n2 ≤ 1048576) :
    Calls Try.prog 17 #[.slice A n c, .slice A2 n2 c2] w fun e w' => e = .returned (.bool (samePs ps qs)) ∧ Below w.heap.size w w' := by
  have hneq := run_neq_Person
  by_cases hl : n = n2
  · subst hl
    go_enter Try.func17, Try.ntmps17
    go_wp2
    go_loopw [5] (fun i wr => ∃ k : Nat, k ≤ n ∧ i = .int .i64 k ∧ samePsTo ps qs k = true ∧ Below w.heap.size w wr) (fun i _ => n - (intOf i).toNat)
    case atStart => exact ⟨0, Nat.zero_le _, rfl, rfl, Below.refl _ _⟩
    case round =>
      obtain ⟨k, hk, rfl, hs, hb⟩ := hrel
      have HS := Lib.hid hs
      clear hs
      by_cases hlt : k < n
      · obtain ⟨b, off, p, rfl, hx, _, hbl, c0, c1, c2⟩ := Person.at (h.below hb) hlt
        obtain ⟨b2, off2, q, rfl, hx2, _, hbl2, d0, d1, d2⟩ := Person.at (h2.below hb) hlt
        have HX := Lib.hid hx
        have HX2 := Lib.hid hx2
        clear hx hx2
        have hlt0 : (0 : Int) ≤ (k : Int) := by omega
        have hlt1 : (k : Int) < (n : Int) := by omega
        cases hq : pSame p q
        · have HQ := Lib.hid hq
          go_wp2
          go_quiet (fail)
          go_wp2
          go_ret
          exact ⟨by rw [samePs_bad HX.out HX2.out HQ.out]; rfl, bel_drewN hb _⟩
        · have HQ := Lib.hid hq
          go_wp2
          go_quiet (fail)
          go_wp2
          go_roundw
          case rel => exact ⟨k + 1, by omega, by go_num, samePsTo_step HS.out HX.out HX2.out HQ.out, bel_drewN hb _⟩
          case measure => simp [intOf]; omega
      · obtain rfl : k = n := by omega
        have HE : Hid (samePs ps qs = true) := by
          show _ = _
          have h3 : samePsTo ps qs ps.length = true := by rw [h.1]; exact HS.out
          unfold samePs; rw [show decide (ps.length = qs.length) = true from by simp [h.1, h2.1]]; exact h3
        go_wp2
        go_ret
        exact ⟨by rw [HE.out]; rfl, hb⟩
  · have hne : ((n : Int) != (n2 : Int)) = true := by rw [bne_iff_ne]; omega
    have HE : Hid (samePs ps qs = false) := samePs_no (by rw [h.1, h2.1]; exact hl)
    go_enter Try.func17, Try.ntmps17
    go_wp2
    go_ret
    exact ⟨by rw [HE.out]; rfl, Below.refl _ _⟩

set_option maxHeartbeats 1600000 in
theorem slicesEqualPerson_any (A A2 : Option Addr) (n n2 c c2 : Nat) (ps qs : List Person) (w : World) (lo lo2 : Nat) (h : Arr Person.cs 3 w lo w.heap.size A n ps) (h2 : Arr Person.cs 3 w lo2 w.heap.size A2 n2 qs) (hn : n ≤ 1048576) (hn2 : n2 ≤ 1048576) :
    Calls Try.prog 57 #[.slice A n c, .slice A2 n2 c2] w fun e w' => e = .returned (.bool (samePs ps qs)) ∧ Below w.heap.size w w' := by
  have hneq := run_neq_Person
  by_cases hl : n = n2
  · subst hl
    go_enter Try.func57, Try.ntmps57
    go_wp2
    go_loopw [13] (fun i wr => ∃ k : Nat, k ≤ n ∧ i = .int .i64 k ∧ samePsTo ps qs k = true ∧ Below w.heap.size w wr) (fun i _ => n - (intOf i).toNat)
    case atStart => exact ⟨0, Nat.zero_le _, rfl, rfl, Below.refl _ _⟩
    case round =>
      obtain ⟨k, hk, rfl, hs, hb⟩ := hrel
      have HS := Lib.hid hs
      clear hs
      by_cases hlt : k < n
      · obtain ⟨b, off, p, rfl, hx, _, hbl, c0, c1, c2⟩ := Person.at (h.below hb) hlt
        obtain ⟨b2, off2, q, rfl, hx2, _, hbl2, d0, d1, d2⟩ := Person.at (h2.below hb) hlt
        have HX := Lib.hid hx
        have HX2 := Lib.hid hx2
        clear hx hx2
        have hlt0 : (0 : Int) ≤ (k : Int) := by omega
        have hlt1 : (k : Int) < (n : Int) := by omega
        cases hq : pSame p q
        · have HQ := Lib.hid hq
          go_wp2
          go_quiet (fail)
          go_wp2
          go_ret
          exact ⟨by rw [samePs_bad HX.out HX2.out HQ.out]; rfl, bel_drewN hb _⟩
        · have HQ := Lib.hid hq
          go_wp2
          go_quiet (fail)
          go_wp2
          go_roundw
          case rel => exact ⟨k + 1, by omega, by go_num, samePsTo_step HS.out HX.out HX2.out HQ.out, bel_drewN hb _⟩
          case measure => simp [intOf]; omega
      · obtain rfl : k = n := by omega
        have HE : Hid (samePs ps qs = true) := by
          show _ = _
          have h3 : samePsTo ps qs ps.length = true := by rw [h.1]; exact HS.out
          unfold samePs; rw [show decide (ps.length = qs.length) = true from by simp [h.1, h2.1]]; exact h3
        go_wp2
        go_ret
        exact ⟨by rw [HE.out]; rfl, hb⟩
  · have hne : ((n : Int) != (n2 : Int)) = true := by rw [bne_iff_ne]; omega
    have HE : Hid (samePs ps qs = false) := samePs_no (by rw [h.1, h2.1]; exact hl)
    go_enter Try.func57, Try.ntmps57
    go_wp2
    go_ret
    exact ⟨by rw [HE.out]; rfl, Below.refl _ _⟩

theorem samePersons_any (A A2 : Option Addr) (n n2 c c2 : Nat) (ps qs : List Person) (w : World) (lo lo2 : Nat) (h : Arr Person.cs 3 w lo w.heap.size A n ps) (h2 : Arr Person.cs 3 w lo2 w.heap.size A2 n2 qs) (hn : n ≤ 1048576) (hn2 : n2 ≤ 1048576) :
    Calls Try.prog 19 #[.slice A n c, .slice A2 n2 c2] w fun e w' => e = .returned (.bool (samePs ps qs)) ∧ Below w.heap.size w w' := by
  go_enter Try.func19, Try.ntmps19
  go_wp2_with fail
  refine (slicesEqualPerson_any _ _ _ _ _ _ ps qs _ _ _ h h2 hn hn2).mono ?_
  rintro e w1 ⟨rfl, hb⟩
  go_wp2
  go_ret
  exact ⟨rfl, hb⟩
end Go.Proofs.Ytfghhginmgifaaa
