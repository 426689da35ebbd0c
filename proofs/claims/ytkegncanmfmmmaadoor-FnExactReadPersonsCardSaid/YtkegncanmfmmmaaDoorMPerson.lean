/- markPersonS and heldPersonS: what they write, and that what was written is found again. -/
import Derived.Test.YtkegncanmfmmmaaDoorRPerson
import Derived.Test.YtkegncanmfmmmaaDoorMarkText
namespace Go.Proofs.YtkegncanmfmmmaaDoor
open Go.RowKit
set_option linter.unusedVariables false

/-- the record that markPersonS writes at number q -/
def markPerson (q : Int) : Person := ⟨(mText (q)), (q + 1), (q + 1 + 1)⟩
def marksPerson (q : Int) (n : Nat) : List Person := (List.range n).map fun i => markPerson (q + 3 * (i : Nat))
theorem marksPerson_len (q : Int) (n : Nat) : (marksPerson q n).length = n := by simp [marksPerson]
theorem marksPerson_at {q : Int} {n i : Nat} (h : i < n) : (marksPerson q n)[i]? = some (markPerson (q + 3 * (i : Nat))) := by simp [marksPerson, h]
theorem marksPerson_eq {q : Int} {n i : Nat} {p : Person} (h : (marksPerson q n)[i]? = some p) : p = markPerson (q + 3 * (i : Nat)) := by
  have hl := (List.getElem?_eq_some_iff.1 h).1
  rw [marksPerson_len] at hl
  rw [marksPerson_at hl] at h; exact (Option.some.inj h).symm

set_option maxHeartbeats 1600000 in
theorem markPersonS_any (A : Option Addr) (n c : Nat) (ps : List Person) (q : Int) (w : World) (lo hi : Nat) (h : Own Person.cs 3 w lo hi 92 A n ps) (hn : n ≤ 4194304) (hq : 0 ≤ q) (hq2 : q ≤ 1073741824) :
    Calls Tryd.prog 23 #[.slice A n c, .int .i64 q] w fun e w' => e = .returned (.int .i64 (q + 3 * (n : Nat))) ∧ Within lo hi w w' ∧ Own Person.cs 3 w' lo hi 92 A n (marksPerson q n) := by
  by_cases hn0 : n = 0
  · subst hn0
    go_enter Tryd.func23, Tryd.ntmps23
    go_wp2
    refine wp_loop_rounds 1 ?_
    rw [rounds_succ]
    go_wp2
    go_ret
    exact ⟨ret_int (by omega), Within.refl _ _ _, Own.nil _⟩
  · obtain ⟨g, cs0, rfl, hg1, hg2, hb0, hs0, _⟩ := h.2 (by omega)
    go_enter Tryd.func23, Tryd.ntmps23
    go_wp2
    go_loopw [1, 5] (fun m i wr => ∃ (k : Nat) (cs : Array Value), k ≤ n ∧ i = .int .i64 k ∧ m = .int .i64 (q + 3 * (k : Nat)) ∧ Blk wr g 92 cs ∧ n * 3 ≤ cs.size ∧ Filled Person.cs 3 cs (marksPerson q n) k ∧ Within lo hi w wr) (fun _ i _ => n - (intOf i).toNat)
    case atStart => exact ⟨0, cs0, Nat.zero_le _, rfl, by simp, hb0, hs0, Filled.start _ _, Within.refl _ _ _⟩
    case round =>
      obtain ⟨k, cs, hk, rfl, rfl, hblk, hsz, hfill, hw⟩ := hrel
      have HZ := Lib.hid hsz
      clear hsz
      by_cases hlt : k < n
      · have hm : (marksPerson q n)[k]? = some (markPerson (q + 3 * (k : Nat))) := marksPerson_at hlt
        have HM := Lib.hid hm
        clear hm
        obtain ⟨Q, hQ⟩ : ∃ Q : Int, Q = q + 3 * (k : Nat) := ⟨_, rfl⟩
        have HQ := Lib.hid hQ
        have hQ0 : 0 ≤ Q := by omega
        have hQ1 : Q ≤ 2147483648 := by omega
        rw [← hQ] at HM ⊢
        clear hQ
        have hg := hblk.lt
        obtain ⟨u0, e0⟩ : ∃ u, wr.cell? ⟨g, k * 3, none⟩ = some u := hblk.there (by have := HZ.out; omega)
        obtain ⟨u1, e1⟩ : ∃ u, wr.cell? ⟨g, k * 3 + 1, none⟩ = some u := hblk.there (by have := HZ.out; omega)
        obtain ⟨u2, e2⟩ : ∃ u, wr.cell? ⟨g, k * 3 + 2, none⟩ = some u := hblk.there (by have := HZ.out; omega)
        have f0 := hblk.frozen (k * 3)
        have f1 := hblk.frozen (k * 3 + 1)
        have f2 := hblk.frozen (k * 3 + 2)
        have HB := Lib.hid hblk
        clear hblk
        go_wp2_with (go_at_call 64; refine (markText_any _ _ (by omega) (by omega)).mono ?_; rintro e w1 ⟨rfl, hb1⟩; have e01 := (hb1.cell (p := ⟨g, k * 3, none⟩) hg).trans e0; have f01 := (hb1.frozen (p := ⟨g, k * 3, none⟩) hg).trans f0; have e11 := (hb1.cell (p := ⟨g, k * 3 + 1, none⟩) hg).trans e1; have f11 := (hb1.frozen (p := ⟨g, k * 3 + 1, none⟩) hg).trans f1; have e21 := (hb1.cell (p := ⟨g, k * 3 + 2, none⟩) hg).trans e2; have f21 := (hb1.frozen (p := ⟨g, k * 3 + 2, none⟩) hg).trans f2)
        go_roundw
        case rel => exact ⟨k + 1, _, by omega, by go_num, by rw [HQ.out]; go_num, (((HB.out.below hb1 hg).set_ (k * 3) (.string (mText (Q)))).set_ (k * 3 + 1) (.int .i64 (Q + 1))).set_ (k * 3 + 2) (.int .i64 (Q + 1 + 1)), by have := HZ.out; simpa using this, hfill.put3 HM.out (by have := HZ.out; omega), (((hw.trans (.of_below _ _ hb1)).setCell hg1 hg2 _).setCell hg1 hg2 _).setCell hg1 hg2 _⟩
        case measure => simp [intOf]; omega
      · obtain rfl : k = n := by omega
        go_wp2
        go_ret
        exact ⟨rfl, hw, marksPerson_len _ _, fun _ => ⟨g, cs, rfl, hg1, hg2, hblk, HZ.out, fun i x hx j hj => hfill i x (by have := (List.getElem?_eq_some_iff.1 hx).1; rw [marksPerson_len] at this; exact this) hx j hj⟩⟩

set_option maxHeartbeats 1600000 in
theorem heldPersonS_same (A : Option Addr) (n c : Nat) (q : Int) (w : World) (lo : Nat) (h : Arr Person.cs 3 w lo w.heap.size A n (marksPerson q n)) (hn : n ≤ 4194304) (hq : 0 ≤ q) (hq2 : q ≤ 1073741824) :
    Calls Tryd.prog 24 #[.slice A n c, .int .i64 q] w fun e w' => e = .returned (.int .i64 (q + 3 * (n : Nat))) ∧ Below w.heap.size w w' := by
  go_enter Tryd.func24, Tryd.ntmps24
  go_wp2
  go_loopw [1, 5] (fun m i wr => ∃ (k : Nat), k ≤ n ∧ i = .int .i64 k ∧ m = .int .i64 (q + 3 * (k : Nat)) ∧ Below w.heap.size w wr) (fun _ i _ => n - (intOf i).toNat)
  case atStart => exact ⟨0, Nat.zero_le _, rfl, by simp, Below.refl _ _⟩
  case round =>
    obtain ⟨k, hk, rfl, rfl, hb⟩ := hrel
    by_cases hlt : k < n
    · obtain ⟨b, off, p, rfl, hx, _, hbl, c0, c1, c2⟩ := Person.at (h.below hb) hlt
      obtain ⟨Q, hQ⟩ : ∃ Q : Int, Q = q + 3 * (k : Nat) := ⟨_, rfl⟩
      have HQ := Lib.hid hQ
      have hQ0 : 0 ≤ Q := by omega
      have hQ1 : Q ≤ 2147483648 := by omega
      have hp := marksPerson_eq hx
      rw [← hQ] at hp ⊢
      subst hp
      clear hQ hx
      simp only [markPerson] at c0 c1 c2
      have hk0 : (0 : Int) ≤ (k : Int) := by omega
      have hk1 : (k : Int) < (n : Int) := by omega
      have hsame : ((mText Q).toList == (mText Q).toList) = true := by simp
      go_wp2_with fail
      go_region_held3 (fun w' => w'.cell? ⟨b, off + k * 3, none⟩ = some (.string (mText (Q)))) (first | go_keep | exact (hb1.cell (by simp; have := hb.size; omega)).trans c0) (first | (go_at_call 64; refine (markText_any _ _ (by omega) (by omega)).mono ?_; rintro e w1 ⟨rfl, hb1⟩; have c11 := (hb1.cell (p := ⟨b, off + k * 3 + 1, none⟩) (by simp; have := hb.size; omega)).trans c1; have c21 := (hb1.cell (p := ⟨b, off + k * 3 + 2, none⟩) (by simp; have := hb.size; omega)).trans c2))
      go_wp2
      go_roundw
      case rel => exact ⟨k + 1, by omega, by go_num, by rw [HQ.out]; go_num, hb.trans ((Below.drew (Below.refl _ _)).trans (hb1.mono hb.size))⟩
      case measure => simp [intOf]; omega
    · obtain rfl : k = n := by omega
      go_wp2
      go_ret
      exact ⟨rfl, hb⟩
end Go.Proofs.YtkegncanmfmmmaaDoor
