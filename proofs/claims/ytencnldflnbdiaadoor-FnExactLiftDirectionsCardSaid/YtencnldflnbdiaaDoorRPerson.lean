/- Person: the record, and the contracts of the laws' own functions over it: size, copy, equality, marks. The copies are of lists of at most 1048576. -/
import Derived.Test.YtencnldflnbdiaaDoorProg
import Derived.Test.YtencnldflnbdiaaDoorWords2
import Derived.Deep.RegionHeld3
import Derived.Deep.QuietTactic
import Derived.BigQuiet
import Derived.KernelRfl
namespace Go.Proofs.YtencnldflnbdiaaDoor
open Go.RowKit
set_option linter.unusedVariables false

structure Person where
  name : ByteArray
  roles : Int
  till : Int

def Person.cs (p : Person) : List Value := [.string p.name, .int .i64 p.roles, .int .i64 p.till]
theorem Person.cs_len (p : Person) : p.cs.length = 3 := rfl
theorem Person.cs_one (p : Person) : ∀ u ∈ p.cs, u.oneCell' = true := by intro u hu; simp [Person.cs] at hu; rcases hu with rfl | rfl | rfl <;> rfl
structure Person.wf (p : Person) : Prop where
  name : p.name.size ≤ 9223372036854775807
  roles : -9223372036854775808 ≤ p.roles ∧ p.roles ≤ 9223372036854775807
  till : -9223372036854775808 ≤ p.till ∧ p.till ≤ 9223372036854775807

theorem Person.at {w : World} {lo hi : Nat} {A : Option Addr} {n : Nat} {xs : List Person} (h : Arr Person.cs 3 w lo hi A n xs) {i : Nat} (hi' : i < n) :
    ∃ b off p, A = some ⟨b, off, none⟩ ∧ xs[i]? = some p ∧ lo ≤ b ∧ b < hi ∧ w.cell? ⟨b, off + i * 3, none⟩ = some (.string p.name) ∧ w.cell? ⟨b, off + i * 3 + 1, none⟩ = some (.int .i64 p.roles) ∧ w.cell? ⟨b, off + i * 3 + 2, none⟩ = some (.int .i64 p.till) := by
  obtain ⟨b, off, p, h1, h2, h3, h4, hc⟩ := h.cells hi'
  exact ⟨b, off, p, h1, h2, h3, h4, hc 0 _ rfl, hc 1 _ rfl, hc 2 _ rfl⟩

def Person.sz (p : Person) : Nat := p.name.size
theorem szPerson_ok (p : Person) (left : Int) (w : World) (hp : p.wf) (h0 : 0 ≤ left) (h1 : left ≤ 1048576) (h : (p.name.size : Int) ≤ left) :
    Calls Tryd.prog 101 #[.agg #[.string p.name, .int .i64 p.roles, .int .i64 p.till], .int .i64 left] w fun e w' => e = .returned (.int .i64 (left - (p.name.size : Int))) ∧ Below w.heap.size w w' := by
  have hn := hp.name
  go_enter Tryd.func101, Tryd.ntmps101
  go_wp2
  go_ret
  exact ⟨rfl, (Below.refl _ _).alloc (Nat.le_refl _) _⟩

theorem szPerson_no (p : Person) (left : Int) (w : World) (hp : p.wf) (h0 : 0 ≤ left) (h1 : left ≤ 1048576) (h : left < (p.name.size : Int)) :
    Calls Tryd.prog 101 #[.agg #[.string p.name, .int .i64 p.roles, .int .i64 p.till], .int .i64 left] w fun e w' => e = .returned (.int .i64 (-1)) ∧ Below w.heap.size w w' := by
  have hn := hp.name
  go_enter Tryd.func101, Tryd.ntmps101
  go_wp2
  go_ret
  exact ⟨rfl, (Below.refl _ _).alloc (Nat.le_refl _) _⟩

def szPersonS (n : Nat) (ps : List Person) : Int := (n : Int) + (tot Person.sz ps : Nat)
set_option maxHeartbeats 800000 in
theorem szPersonS_ok (A : Option Addr) (n c : Nat) (ps : List Person) (left : Int) (w : World) (lo : Nat) (h : Arr Person.cs 3 w lo w.heap.size A n ps) (hn : n ≤ 9223372036854775807) (hp : ∀ p ∈ ps, p.wf) (h0 : 0 ≤ left) (h1 : left ≤ 1048576) (hs : szPersonS n ps ≤ left) :
    Calls Tryd.prog 42 #[.slice A n c, .int .i64 left] w fun e w' => e = .returned (.int .i64 (left - szPersonS n ps)) ∧ Below w.heap.size w w' := by
  have HS := Lib.hid hs
  clear hs
  by_cases hl : (n : Int) ≤ left
  · go_enter Tryd.func42, Tryd.ntmps42
    go_wp2
    go_loopw [1, 5] (fun l i wr => ∃ k : Nat, k ≤ n ∧ i = .int .i64 k ∧ l = .int .i64 (left - n - (tot Person.sz (ps.take k) : Nat)) ∧ 0 ≤ left - n - (tot Person.sz (ps.take k) : Nat) ∧ Below w.heap.size w wr) (fun _ i _ => n - (intOf i).toNat)
    case atStart => exact ⟨0, Nat.zero_le _, rfl, by simp [tot], by simp [tot]; omega, Below.refl _ _⟩
    case round =>
      obtain ⟨k, hk, rfl, rfl, hr, hb⟩ := hrel
      by_cases hlt : k < n
      · obtain ⟨b, off, p, rfl, hx, _, hbl, c0, c1, c2⟩ := Person.at (h.below hb) hlt
        have hpw := hp p (List.mem_of_getElem? hx)
        have HT := Lib.hid (tot_snoc Person.sz ps k p hx)
        have HL := Lib.hid (tot_le Person.sz ps (k + 1))
        generalize tot Person.sz (ps.take k) = T at *
        by_cases hle : (p.name.size : Int) ≤ left - n - T
        · go_wp2_with (go_at_call 101; refine (szPerson_ok p _ _ hpw (by omega) (by omega) (by omega)).mono ?_; rintro e w1 ⟨rfl, hb1⟩)
          go_roundw
          case rel => exact ⟨k + 1, by omega, by go_num, by rw [HT.out]; unfold Person.sz; go_num, by rw [HT.out]; unfold Person.sz; omega, hb.trans (hb1.mono hb.size)⟩
          case measure => simp [intOf]; omega
        · go_wp2_with (go_at_call 101; refine (szPerson_no p _ _ hpw (by omega) (by omega) (by omega)).mono ?_; rintro e w1 ⟨rfl, hb1⟩)
          go_ret
          exact absurd HS.out (by have h1 := HT.out; have h2 := HL.out; rw [h1] at h2; unfold szPersonS; unfold Person.sz at *; omega)
      · obtain rfl : k = n := by omega
        go_wp2
        go_ret
        exact ⟨ret_int (by unfold szPersonS; rw [List.take_of_length_le (by rw [h.1]; exact Nat.le_refl _)]; omega), hb⟩
  · exact absurd HS.out (by unfold szPersonS; omega)

set_option maxHeartbeats 800000 in
theorem szPersonS_no (A : Option Addr) (n c : Nat) (ps : List Person) (left : Int) (w : World) (lo : Nat) (h : Arr Person.cs 3 w lo w.heap.size A n ps) (hn : n ≤ 9223372036854775807) (hp : ∀ p ∈ ps, p.wf) (h0 : 0 ≤ left) (h1 : left ≤ 1048576) (hs : left < szPersonS n ps) :
    Calls Tryd.prog 42 #[.slice A n c, .int .i64 left] w fun e w' => e = .returned (.int .i64 (-1)) ∧ Below w.heap.size w w' := by
  have HS := Lib.hid hs
  clear hs
  by_cases hl : (n : Int) ≤ left
  · go_enter Tryd.func42, Tryd.ntmps42
    go_wp2
    go_loopw [1, 5] (fun l i wr => ∃ k : Nat, k ≤ n ∧ i = .int .i64 k ∧ l = .int .i64 (left - n - (tot Person.sz (ps.take k) : Nat)) ∧ 0 ≤ left - n - (tot Person.sz (ps.take k) : Nat) ∧ Below w.heap.size w wr) (fun _ i _ => n - (intOf i).toNat)
    case atStart => exact ⟨0, Nat.zero_le _, rfl, by simp [tot], by simp [tot]; omega, Below.refl _ _⟩
    case round =>
      obtain ⟨k, hk, rfl, rfl, hr, hb⟩ := hrel
      by_cases hlt : k < n
      · obtain ⟨b, off, p, rfl, hx, _, hbl, c0, c1, c2⟩ := Person.at (h.below hb) hlt
        have hpw := hp p (List.mem_of_getElem? hx)
        have HT := Lib.hid (tot_snoc Person.sz ps k p hx)
        have HL := Lib.hid (tot_le Person.sz ps (k + 1))
        generalize tot Person.sz (ps.take k) = T at *
        by_cases hle : (p.name.size : Int) ≤ left - n - T
        · go_wp2_with (go_at_call 101; refine (szPerson_ok p _ _ hpw (by omega) (by omega) (by omega)).mono ?_; rintro e w1 ⟨rfl, hb1⟩)
          go_roundw
          case rel => exact ⟨k + 1, by omega, by go_num, by rw [HT.out]; unfold Person.sz; go_num, by rw [HT.out]; unfold Person.sz; omega, hb.trans (hb1.mono hb.size)⟩
          case measure => simp [intOf]; omega
        · go_wp2_with (go_at_call 101; refine (szPerson_no p _ _ hpw (by omega) (by omega) (by omega)).mono ?_; rintro e w1 ⟨rfl, hb1⟩)
          go_ret
          exact ⟨rfl, hb.trans (hb1.mono hb.size)⟩
      · obtain rfl : k = n := by omega
        go_wp2
        go_ret
        exact absurd HS.out (by rw [List.take_of_length_le (by rw [h.1]; exact Nat.le_refl _)] at hr; unfold szPersonS; omega)
  · go_enter Tryd.func42, Tryd.ntmps42
    go_wp2
    go_ret
    exact ⟨rfl, Below.refl _ _⟩

set_option maxHeartbeats 400000 in
theorem toPerson_any (p : Person) (w : World) :
    Calls Tryd.prog 104 #[.agg #[.string p.name, .int .i64 p.roles, .int .i64 p.till]] w fun e w' => e = .returned (.agg #[.string p.name, .int .i64 p.roles, .int .i64 p.till]) ∧ Below w.heap.size w w' := by
  go_enter Tryd.func104, Tryd.ntmps104
  go_wp2
  exact bodyPost_ret (v := .agg #[.string p.name, .int .i64 p.roles, .int .i64 p.till]) (by simp [results, Tryd.results104, go_sem]) rfl ⟨rfl, by repeat (first | exact Below.refl _ _ | (refine Below.setCell ?_ (by first | (simp; done) | (simp; omega)) _) | (refine Below.alloc ?_ (by first | (simp; done) | (simp; omega)) _) | refine Below.drew ?_)⟩

theorem PersonInfo : (Tryd.prog.info? 149).map (fun i => (i.zero, i.size, i.bytes)) = some (some (.agg #[.string ⟨#[]⟩, .int .i64 0, .int .i64 0]), 3, 32) := by kernel_rfl
def ToPersonS (w : World) (n : Nat) (ps : List Person) (e : Ending) (w' : World) : Prop :=
  ∃ g, e = .returned (.slice (some ⟨g, 0, none⟩) n n) ∧ Own Person.cs 3 w' w.heap.size w'.heap.size 149 (some ⟨g, 0, none⟩) n ps ∧ Below w.heap.size w w'
set_option maxHeartbeats 1600000 in
theorem toPersonS_any (A : Option Addr) (n c : Nat) (ps : List Person) (w : World) (lo : Nat) (h : Arr Person.cs 3 w lo w.heap.size A n ps) (hn : n ≤ 1048576) :
    Calls Tryd.prog 44 #[.slice A n c] w (ToPersonS w n ps) := by
  obtain ⟨i0, hi, hz0, hz1, hz2⟩ := info_parts PersonInfo
  have hmk := fun W => run_make_rowN (P := Tryd.prog) 87 149 i0 _ Tryd.underlying87 hi hz0 .i64 .i64 n n (Nat.le_refl _) (by rw [hz2]; omega) (by omega) W
  rw [hz1] at hmk
  go_enter Tryd.func44, Tryd.ntmps44
  go_wp2
  clear hmk
  go_loopw [4] (fun i wr => ∃ (k : Nat) (cs : Array Value), k ≤ n ∧ i = .int .i64 k ∧ Blk wr w.heap.size 149 cs ∧ cs.size = n * 3 ∧ Filled Person.cs 3 cs ps k ∧ Below w.heap.size w wr) (fun i _ => n - (intOf i).toNat)
  case atStart => exact ⟨0, _, Nat.zero_le _, rfl, Blk.new _ _ _, by simp [size_madeCells], Filled.start _ _, (Below.refl _ _).alloc (Nat.le_refl _) _⟩
  case round =>
    obtain ⟨k, cs, hk, rfl, hblk, hsz, hfill, hb⟩ := hrel
    have HZ := Lib.hid hsz
    clear hsz
    by_cases hlt : k < n
    · obtain ⟨b, off, p, rfl, hx, _, hbl, c0, c1, c2⟩ := Person.at (h.below hb) hlt
      have hg := hblk.lt
      obtain ⟨u0, e0⟩ : ∃ u, wr.cell? ⟨w.heap.size, k * 3, none⟩ = some u := hblk.there (by have := HZ.out; omega)
      obtain ⟨u1, e1⟩ : ∃ u, wr.cell? ⟨w.heap.size, k * 3 + 1, none⟩ = some u := hblk.there (by have := HZ.out; omega)
      obtain ⟨u2, e2⟩ : ∃ u, wr.cell? ⟨w.heap.size, k * 3 + 2, none⟩ = some u := hblk.there (by have := HZ.out; omega)
      have f0 := hblk.frozen (k * 3)
      have f1 := hblk.frozen (k * 3 + 1)
      have f2 := hblk.frozen (k * 3 + 2)
      have HB := Lib.hid hblk
      clear hblk
      go_wp2_with (go_at_call 104; refine (toPerson_any p _).mono ?_; rintro e w1 ⟨rfl, hb1⟩; have e01 := (hb1.cell (p := ⟨w.heap.size, k * 3, none⟩) hg).trans e0; have f01 := (hb1.frozen (p := ⟨w.heap.size, k * 3, none⟩) hg).trans f0; have e11 := (hb1.cell (p := ⟨w.heap.size, k * 3 + 1, none⟩) hg).trans e1; have f11 := (hb1.frozen (p := ⟨w.heap.size, k * 3 + 1, none⟩) hg).trans f1; have e21 := (hb1.cell (p := ⟨w.heap.size, k * 3 + 2, none⟩) hg).trans e2; have f21 := (hb1.frozen (p := ⟨w.heap.size, k * 3 + 2, none⟩) hg).trans f2)
      go_roundw
      case rel => exact ⟨k + 1, _, by omega, by go_num, (((HB.out.below hb1 hg).set_ (k * 3) (.string p.name)).set_ (k * 3 + 1) (.int .i64 p.roles)).set_ (k * 3 + 2) (.int .i64 p.till), by simp [HZ.out], hfill.put3 hx (by have := HZ.out; omega), (((hb.trans (hb1.mono hb.size)).setCell (Nat.le_refl _) _).setCell (Nat.le_refl _) _).setCell (Nat.le_refl _) _⟩
      case measure => simp [intOf]; omega
    · obtain rfl : k = n := by omega
      go_wp2
      go_ret
      exact ⟨w.heap.size, rfl, hfill.own h.1 (by rw [HZ.out]; exact Nat.le_refl _) hblk (Nat.le_refl _), hb⟩

set_option maxHeartbeats 400000 in
theorem eqPerson_same (p : Person) (w : World) :
    Calls Tryd.prog 109 #[.agg #[.string p.name, .int .i64 p.roles, .int .i64 p.till], .agg #[.string p.name, .int .i64 p.roles, .int .i64 p.till]] w fun e w' => e = .returned (.bool true) ∧ Below w.heap.size w w' := by
  go_enter Tryd.func109, Tryd.ntmps109
  go_wp2
  go_ret
  exact ⟨rfl, by repeat (first | exact Below.refl _ _ | (refine Below.setCell ?_ (by first | (simp; done) | (simp; omega)) _) | (refine Below.alloc ?_ (by first | (simp; done) | (simp; omega)) _) | refine Below.drew ?_)⟩

set_option maxHeartbeats 1600000 in
theorem eqPersonS_same (A A2 : Option Addr) (n c c2 : Nat) (ps : List Person) (w : World) (lo lo2 : Nat) (h : Arr Person.cs 3 w lo w.heap.size A n ps) (h2 : Arr Person.cs 3 w lo2 w.heap.size A2 n ps) (hn : n ≤ 9223372036854775807) :
    Calls Tryd.prog 46 #[.slice A n c, .slice A2 n c2] w fun e w' => e = .returned (.bool true) ∧ Below w.heap.size w w' := by
  go_enter Tryd.func46, Tryd.ntmps46
  go_wp2
  go_loopw [5] (fun i wr => ∃ k : Nat, k ≤ n ∧ i = .int .i64 k ∧ Below w.heap.size w wr) (fun i _ => n - (intOf i).toNat)
  case atStart => exact ⟨0, Nat.zero_le _, rfl, Below.refl _ _⟩
  case round =>
    obtain ⟨k, hk, rfl, hb⟩ := hrel
    by_cases hlt : k < n
    · obtain ⟨b, off, p, rfl, hx, _, hbl, c0, c1, c2⟩ := Person.at (h.below hb) hlt
      obtain ⟨b2, off2, p2, rfl, hx2, _, hbl2, d0, d1, d2⟩ := Person.at (h2.below hb) hlt
      obtain rfl : p = p2 := by rw [hx] at hx2; exact Option.some.inj hx2
      have hlt0 : (0 : Int) ≤ (k : Int) := by omega
      have hlt1 : (k : Int) < (n : Int) := by omega
      have hx1 := hbl; have hx3 := hbl2; have hx4 := hb.size
      clear h h2 hx hx2
      go_wp2_with fail
      go_region_held3 (fun w' => w'.cell? ⟨b, off + k * 3, none⟩ = some (.string p.name) ∧ w'.cell? ⟨b, off + k * 3 + 1, none⟩ = some (.int .i64 p.roles) ∧ w'.cell? ⟨b, off + k * 3 + 2, none⟩ = some (.int .i64 p.till) ∧ w'.cell? ⟨b2, off2 + k * 3, none⟩ = some (.string p.name) ∧ w'.cell? ⟨b2, off2 + k * 3 + 1, none⟩ = some (.int .i64 p.roles) ∧ w'.cell? ⟨b2, off2 + k * 3 + 2, none⟩ = some (.int .i64 p.till)) (first | go_keep | exact ⟨(hb1.cell (by simp; omega)).trans c0, (hb1.cell (by simp; omega)).trans c1, (hb1.cell (by simp; omega)).trans c2, (hb1.cell (by simp; omega)).trans d0, (hb1.cell (by simp; omega)).trans d1, (hb1.cell (by simp; omega)).trans d2⟩) (first | (go_at_call 109; refine (eqPerson_same p _).mono ?_; rintro e w1 ⟨rfl, hb1⟩))
      go_wp2
      go_roundw
      case rel => exact ⟨k + 1, by omega, by go_num, hb.trans ((Below.drew (Below.refl _ _)).trans (hb1.mono hb.size))⟩
      case measure => simp [intOf]; omega
    · obtain rfl : k = n := by omega
      go_wp2
      go_ret
      exact ⟨rfl, hb⟩
end Go.Proofs.YtencnldflnbdiaaDoor
