/- []bool and [][]bool: the contracts of the laws' own functions over it: size, copy, equality. -/
import Derived.Test.YtomifedaiabapaaProg
import Derived.Test.YtomifedaiabapaaNest
import Derived.Test.YtomifedaiabapaaQuiet
import Derived.Deep.RegionHeld3
import Derived.KernelRfl
namespace Go.Proofs.Ytomifedaiabapaa
open Go.RowKit
set_option linter.unusedVariables false

def bc (p : Bool) : List Value := [.bool p]
theorem bc_len (p : Bool) : (bc p).length = 1 := rfl
theorem Bools.at {w : World} {lo hi : Nat} {A : Option Addr} {n : Nat} {xs : List Bool} (h : Arr bc 1 w lo hi A n xs) {i : Nat} (hi' : i < n) :
    ∃ b off p, A = some ⟨b, off, none⟩ ∧ xs[i]? = some p ∧ lo ≤ b ∧ b < hi ∧ w.cell? ⟨b, off + i, none⟩ = some (.bool p) := by
  obtain ⟨b, off, p, h1, h2, h3, h4, hc⟩ := h.cells hi'
  exact ⟨b, off, p, h1, h2, h3, h4, by have := hc 0 _ rfl; rwa [Nat.mul_one] at this⟩
theorem infoBool : (Try.prog.info? 4).map (fun i => (i.zero, i.size, i.bytes)) = some (some (.bool false), 1, 1) := by kernel_rfl

theorem szBoolS_ok (A : Option Addr) (n c : Nat) (left : Int) (w : World) (hn : n ≤ 9223372036854775807) (h0 : 0 ≤ left) (h1 : left ≤ 1048576) (hs : (n : Int) ≤ left) :
    Calls Try.prog 57 #[.slice A n c, .int .i64 left] w fun e w' => e = .returned (.int .i64 (left - n)) ∧ Below w.heap.size w w' := by
  go_enter Try.func57, Try.ntmps57
  go_wp2
  go_ret
  exact ⟨rfl, Below.refl _ _⟩
theorem szBoolS_no (A : Option Addr) (n c : Nat) (left : Int) (w : World) (hn : n ≤ 9223372036854775807) (h0 : 0 ≤ left) (h1 : left ≤ 1048576) (hs : left < (n : Int)) :
    Calls Try.prog 57 #[.slice A n c, .int .i64 left] w fun e w' => e = .returned (.int .i64 (-1)) ∧ Below w.heap.size w w' := by
  go_enter Try.func57, Try.ntmps57
  go_wp2
  go_ret
  exact ⟨rfl, Below.refl _ _⟩

/-- a call that hands back a copy -/
def ToBoolS (w : World) (n : Nat) (ps : List Bool) (e : Ending) (w' : World) : Prop :=
  ∃ g, e = .returned (.slice (some ⟨g, 0, none⟩) n n) ∧ Own bc 1 w' w.heap.size w'.heap.size 4 (some ⟨g, 0, none⟩) n ps ∧ Below w.heap.size w w'
set_option maxHeartbeats 800000 in
theorem toBoolS_any (A : Option Addr) (n c : Nat) (ps : List Bool) (w : World) (lo : Nat) (h : Arr bc 1 w lo w.heap.size A n ps) (hn : n ≤ 1048576) :
    Calls Try.prog 60 #[.slice A n c] w (ToBoolS w n ps) := by
  obtain ⟨i0, hi, hz0, hz1, hz2⟩ := info_parts infoBool
  have hmk := fun W => run_make_rowN (P := Try.prog) 100 4 i0 _ Try.underlying100 hi hz0 .i64 .i64 n n (Nat.le_refl _) (by rw [hz2]; omega) (by omega) W
  rw [hz1] at hmk
  go_enter Try.func60, Try.ntmps60
  go_wp2
  clear hmk
  go_loopw [4] (fun i wr => ∃ (k : Nat) (cs : Array Value), k ≤ n ∧ i = .int .i64 k ∧ Blk wr w.heap.size 4 cs ∧ cs.size = n * 1 ∧ Filled bc 1 cs ps k ∧ Below w.heap.size w wr) (fun i _ => n - (intOf i).toNat)
  case atStart => exact ⟨0, _, Nat.zero_le _, rfl, Blk.new _ _ _, by simp [size_madeCells], Filled.start _ _, (Below.refl _ _).alloc (Nat.le_refl _) _⟩
  case round =>
    obtain ⟨k, cs, hk, rfl, hblk, hsz, hfill, hb⟩ := hrel
    have HZ := Lib.hid hsz
    clear hsz
    by_cases hlt : k < n
    · obtain ⟨b, off, p, rfl, hx, _, hbl, c0⟩ := Bools.at (h.below hb) hlt
      have hg := hblk.lt
      obtain ⟨u0, e0⟩ : ∃ u, wr.cell? ⟨w.heap.size, k, none⟩ = some u := hblk.there (by have := HZ.out; omega)
      have f0 := hblk.frozen k
      have HB := Lib.hid hblk
      clear hblk
      have HX := Lib.hid hx
      clear hx
      have hk0 : (0 : Int) ≤ (k : Int) := by omega
      have hk1 : (k : Int) < (n : Int) := by omega
      go_wp2
      go_roundw
      case rel => exact ⟨k + 1, _, by omega, by go_num, HB.out.set_ k (.bool p), by simp [HZ.out], (show Filled bc 1 (cs.setIfInBounds k (.bool p)) ps (k + 1) from by have := hfill.put1 HX.out (by have := HZ.out; omega); rwa [Nat.mul_one] at this), hb.setCell (Nat.le_refl _) _⟩
      case measure => simp [intOf]; omega
    · obtain rfl : k = n := by omega
      go_wp2
      go_ret
      exact ⟨w.heap.size, rfl, hfill.own h.1 (by rw [HZ.out]; exact Nat.le_refl _) hblk (Nat.le_refl _), hb⟩

set_option maxHeartbeats 800000 in
theorem eqBoolS_quiet (A A2 : Option Addr) (n c c2 : Nat) (ps : List Bool) (w : World) (lo lo2 : Nat) (h : Arr bc 1 w lo w.heap.size A n ps) (h2 : Arr bc 1 w lo2 w.heap.size A2 n ps) (hn : n ≤ 9223372036854775807) :
    Calls Try.prog 64 #[.slice A n c, .slice A2 n c2] w (Quiet (.bool true) w) := by
  go_enter Try.func64, Try.ntmps64
  go_wp2
  go_loopw [5] (fun i wr => ∃ k : Nat, k ≤ n ∧ i = .int .i64 k ∧ ∃ m, wr = w.drewN m) (fun i _ => n - (intOf i).toNat)
  case atStart => exact ⟨0, Nat.zero_le _, rfl, 0, rfl⟩
  case round =>
    obtain ⟨k, hk, rfl, m, rfl⟩ := hrel
    by_cases hlt : k < n
    · obtain ⟨b, off, p, rfl, hx, _, hbl, c0⟩ := Bools.at h hlt
      obtain ⟨b2, off2, p2, rfl, hx2, _, hbl2, d0⟩ := Bools.at h2 hlt
      obtain rfl : p = p2 := by rw [hx] at hx2; exact Option.some.inj hx2
      have hlt0 : (0 : Int) ≤ (k : Int) := by omega
      have hlt1 : (k : Int) < (n : Int) := by omega
      clear h h2 hx hx2
      go_wp2
      go_quiet (fail)
      go_wp2
      go_roundw
      case rel => exact ⟨k + 1, by omega, by go_num, _, rfl⟩
      case measure => simp [intOf]; omega
    · obtain rfl : k = n := by omega
      go_wp2
      go_ret
      exact ⟨rfl, _, rfl⟩

def szBoolSS (n : Nat) (rs : List (Row Bool)) : Int := n + (tot Row.n rs : Nat)
set_option maxHeartbeats 800000 in
theorem szBoolSS_ok (A : Option Addr) (n c : Nat) (rs : List (Row Bool)) (left : Int) (w : World) (lo : Nat) (h : Arr2 bc 1 w lo w.heap.size A n rs) (hn : n ≤ 9223372036854775807) (hp : ∀ r ∈ rs, r.n ≤ 9223372036854775807) (h0 : 0 ≤ left) (h1 : left ≤ 1048576) (hs : szBoolSS n rs ≤ left) :
    Calls Try.prog 9 #[.slice A n c, .int .i64 left] w fun e w' => e = .returned (.int .i64 (left - szBoolSS n rs)) ∧ Below w.heap.size w w' := by
  have HS := Lib.hid hs
  clear hs
  by_cases hl : (n : Int) ≤ left
  · go_enter Try.func9, Try.ntmps9
    go_wp2
    go_loopw [1, 5] (fun l i wr => ∃ k : Nat, k ≤ n ∧ i = .int .i64 k ∧ l = .int .i64 (left - n - (tot Row.n (rs.take k) : Nat)) ∧ 0 ≤ left - n - (tot Row.n (rs.take k) : Nat) ∧ Below w.heap.size w wr) (fun _ i _ => n - (intOf i).toNat)
    case atStart => exact ⟨0, Nat.zero_le _, rfl, by simp [tot], by simp [tot]; omega, Below.refl _ _⟩
    case round =>
      obtain ⟨k, hk, rfl, rfl, hr, hb⟩ := hrel
      by_cases hlt : k < n
      · obtain ⟨b, off, p, rfl, hx, _, hbl, c0, _⟩ := (h.below hb).at hlt
        have hpw := hp p (List.mem_of_getElem? hx)
        have HT := Lib.hid (tot_snoc Row.n rs k p hx)
        have HL := Lib.hid (tot_le Row.n rs (k + 1))
        generalize tot Row.n (rs.take k) = T at *
        by_cases hle : (p.n : Int) ≤ left - n - T
        · go_wp2_with (go_at_call 57; refine (szBoolS_ok _ _ _ _ _ hpw (by omega) (by omega) (by omega)).mono ?_; rintro e w1 ⟨rfl, hb1⟩)
          go_roundw
          case rel => exact ⟨k + 1, by omega, by go_num, by rw [HT.out]; go_num, by rw [HT.out]; omega, hb.trans (hb1.mono hb.size)⟩
          case measure => simp [intOf]; omega
        · go_wp2_with (go_at_call 57; refine (szBoolS_no _ _ _ _ _ hpw (by omega) (by omega) (by omega)).mono ?_; rintro e w1 ⟨rfl, hb1⟩)
          go_ret
          exact absurd HS.out (by have h1 := HT.out; have h2 := HL.out; rw [h1] at h2; unfold szBoolSS; omega)
      · obtain rfl : k = n := by omega
        go_wp2
        go_ret
        exact ⟨ret_int (by unfold szBoolSS; rw [List.take_of_length_le (by rw [h.len]; exact Nat.le_refl _)]; omega), hb⟩
  · exact absurd HS.out (by unfold szBoolSS; omega)
set_option maxHeartbeats 800000 in
theorem szBoolSS_no (A : Option Addr) (n c : Nat) (rs : List (Row Bool)) (left : Int) (w : World) (lo : Nat) (h : Arr2 bc 1 w lo w.heap.size A n rs) (hn : n ≤ 9223372036854775807) (hp : ∀ r ∈ rs, r.n ≤ 9223372036854775807) (h0 : 0 ≤ left) (h1 : left ≤ 1048576) (hs : left < szBoolSS n rs) :
    Calls Try.prog 9 #[.slice A n c, .int .i64 left] w fun e w' => e = .returned (.int .i64 (-1)) ∧ Below w.heap.size w w' := by
  have HS := Lib.hid hs
  clear hs
  by_cases hl : (n : Int) ≤ left
  · go_enter Try.func9, Try.ntmps9
    go_wp2
    go_loopw [1, 5] (fun l i wr => ∃ k : Nat, k ≤ n ∧ i = .int .i64 k ∧ l = .int .i64 (left - n - (tot Row.n (rs.take k) : Nat)) ∧ 0 ≤ left - n - (tot Row.n (rs.take k) : Nat) ∧ Below w.heap.size w wr) (fun _ i _ => n - (intOf i).toNat)
    case atStart => exact ⟨0, Nat.zero_le _, rfl, by simp [tot], by simp [tot]; omega, Below.refl _ _⟩
    case round =>
      obtain ⟨k, hk, rfl, rfl, hr, hb⟩ := hrel
      by_cases hlt : k < n
      · obtain ⟨b, off, p, rfl, hx, _, hbl, c0, _⟩ := (h.below hb).at hlt
        have hpw := hp p (List.mem_of_getElem? hx)
        have HT := Lib.hid (tot_snoc Row.n rs k p hx)
        have HL := Lib.hid (tot_le Row.n rs (k + 1))
        generalize tot Row.n (rs.take k) = T at *
        by_cases hle : (p.n : Int) ≤ left - n - T
        · go_wp2_with (go_at_call 57; refine (szBoolS_ok _ _ _ _ _ hpw (by omega) (by omega) (by omega)).mono ?_; rintro e w1 ⟨rfl, hb1⟩)
          go_roundw
          case rel => exact ⟨k + 1, by omega, by go_num, by rw [HT.out]; go_num, by rw [HT.out]; omega, hb.trans (hb1.mono hb.size)⟩
          case measure => simp [intOf]; omega
        · go_wp2_with (go_at_call 57; refine (szBoolS_no _ _ _ _ _ hpw (by omega) (by omega) (by omega)).mono ?_; rintro e w1 ⟨rfl, hb1⟩)
          go_ret
          exact ⟨rfl, hb.trans (hb1.mono hb.size)⟩
      · obtain rfl : k = n := by omega
        go_wp2
        go_ret
        exact absurd HS.out (by rw [List.take_of_length_le (by rw [h.len]; exact Nat.le_refl _)] at hr; unfold szBoolSS; omega)
  · go_enter Try.func9, Try.ntmps9
    go_wp2
    go_ret
    exact ⟨rfl, Below.refl _ _⟩

theorem infoRowBool : (Try.prog.info? 100).map (fun i => (i.zero, i.size, i.bytes)) = some (some (.slice none 0 0), 1, 24) := by kernel_rfl
/-- a call that hands back a copy of a slice of slices -/
def ToBoolSS (w : World) (n : Nat) (rs : List (Row Bool)) (e : Ending) (w' : World) : Prop :=
  ∃ A rs', e = .returned (.slice A n n) ∧ vals rs' = vals rs ∧ Arr2 bc 1 w' w.heap.size w'.heap.size A n rs' ∧ Below w.heap.size w w'
set_option maxHeartbeats 1600000 in
theorem toBoolSS_any (A : Option Addr) (n c : Nat) (rs : List (Row Bool)) (w : World) (lo : Nat) (h : Arr2 bc 1 w lo w.heap.size A n rs) (hn : n ≤ 1048576) (hp : ∀ r ∈ rs, r.n ≤ 1048576) :
    Calls Try.prog 11 #[.slice A n c] w (ToBoolSS w n rs) := by
  obtain ⟨i0, hi, hz0, hz1, hz2⟩ := info_parts infoRowBool
  have hmk := fun W => run_make_rowN (P := Try.prog) 22 100 i0 _ Try.underlying22 hi hz0 .i64 .i64 n n (Nat.le_refl _) (by rw [hz2]; omega) (by omega) W
  rw [hz1] at hmk
  go_enter Try.func11, Try.ntmps11
  go_wp2
  clear hmk
  go_loopw [4] (fun i wr => ∃ (k : Nat) (cs : Array Value) (out : List (Row Bool)), k ≤ n ∧ i = .int .i64 k ∧ Blk wr w.heap.size 100 cs ∧ cs.size = n * 1 ∧ Rows2 bc 1 wr (w.heap.size + 1) cs rs k out ∧ w.heap.size + 1 ≤ wr.heap.size ∧ Below w.heap.size w wr) (fun i _ => n - (intOf i).toNat)
  case atStart => exact ⟨0, _, [], Nat.zero_le _, rfl, Blk.new _ _ _, by simp [size_madeCells], Rows2.start _ _ _ _, by simp, (Below.refl _ _).alloc (Nat.le_refl _) _⟩
  case round =>
    obtain ⟨k, cs, out, hk, rfl, hblk, hsz, hrows, hws, hb⟩ := hrel
    have HZ := Lib.hid hsz
    clear hsz
    by_cases hlt : k < n
    · obtain ⟨b, off, r, rfl, hx, _, hbl, c0, hr⟩ := (h.below hb).at hlt
      have hrn := hp r (List.mem_of_getElem? hx)
      have hg := hblk.lt
      have HB := Lib.hid hblk
      have HX := Lib.hid hx
      have HR := Lib.hid hrows
      have hsz2 := hb.size
      obtain ⟨u0, e0⟩ : ∃ u, wr.cell? ⟨w.heap.size, k, none⟩ = some u := hblk.there (by have := HZ.out; omega)
      have f0 := hblk.frozen k
      clear hblk hx hrows
      have hk0 : (0 : Int) ≤ (k : Int) := by omega
      have hk1 : (k : Int) < (n : Int) := by omega
      go_wp2_with (go_at_call 60; refine (toBoolS_any _ _ _ r.xs _ _ (hr.more hsz2) hrn).mono ?_; rintro e w1 ⟨g, rfl, ho, hb1⟩; have e01 := (hb1.cell (p := ⟨w.heap.size, k, none⟩) hg).trans e0; have f01 := (hb1.frozen (p := ⟨w.heap.size, k, none⟩) hg).trans f0)
      go_roundw
      case rel => exact ⟨k + 1, _, _, by omega, by go_num, (HB.out.below hb1 hg).set_ k (.slice (some ⟨g, 0, none⟩) r.n r.n), by simp [HZ.out], (HR.out.step (r' := ⟨some ⟨g, 0, none⟩, r.n, r.n, r.xs⟩) HX.out rfl (by have := HZ.out; omega) hb1 ((ho.arr bc_len).less hws)).within ((Within.refl _ _ _).setCell (lo := w.heap.size) (hi := w.heap.size + 1) (Nat.le_refl _) (by simp) _) (by omega), by have := hb1.size; simp; omega, (hb.trans (hb1.mono hb.size)).setCell (Nat.le_refl _) _⟩
      case measure => simp [intOf]; omega
    · obtain rfl : k = n := by omega
      go_wp2
      go_ret
      refine ⟨_, out, rfl, by rw [hrows.val, List.take_of_length_le (by rw [vals_len, h.len]; exact Nat.le_refl _)], ⟨(hrows.fill.own hrows.len (by rw [HZ.out]; exact Nat.le_refl _) hblk (Nat.le_refl _)).arr Row.cs_len, fun r hr => (hrows.rd r hr).less (by omega)⟩, hb⟩

set_option maxHeartbeats 1600000 in
theorem eqBoolSS_same (A A2 : Option Addr) (n c c2 : Nat) (rs rs2 : List (Row Bool)) (w : World) (lo lo2 : Nat) (h : Arr2 bc 1 w lo w.heap.size A n rs) (h2 : Arr2 bc 1 w lo2 w.heap.size A2 n rs2) (hv : vals rs = vals rs2) (hn : n ≤ 9223372036854775807) (hp : ∀ r ∈ rs, r.n ≤ 9223372036854775807) :
    Calls Try.prog 16 #[.slice A n c, .slice A2 n c2] w fun e w' => e = .returned (.bool true) ∧ Below w.heap.size w w' := by
  have HV := Lib.hid hv
  clear hv
  go_enter Try.func16, Try.ntmps16
  go_wp2
  go_loopw [5] (fun i wr => ∃ k : Nat, k ≤ n ∧ i = .int .i64 k ∧ Below w.heap.size w wr) (fun i _ => n - (intOf i).toNat)
  case atStart => exact ⟨0, Nat.zero_le _, rfl, Below.refl _ _⟩
  case round =>
    obtain ⟨k, hk, rfl, hb⟩ := hrel
    by_cases hlt : k < n
    · obtain ⟨b, off, r, rfl, hx, _, hbl, c0, hr⟩ := (h.below hb).at hlt
      obtain ⟨b2, off2, r2, rfl, hx2, _, hbl2, d0, hr2⟩ := (h2.below hb).at hlt
      have hrn := hp r (List.mem_of_getElem? hx)
      have hxs := vals_same HV.out hx hx2
      have hn2 : r2.n = r.n := by rw [← hr.1, ← hr2.1, hxs]
      rw [hn2] at hr2 d0
      rw [← hxs] at hr2
      have hlt0 : (0 : Int) ≤ (k : Int) := by omega
      have hlt1 : (k : Int) < (n : Int) := by omega
      have hsz := hb.size
      clear h h2 hx hx2 hxs hn2 hp
      go_wp2
      go_quiet ((go_at_call 64; exact quiet_of (eqBoolS_quiet _ _ _ _ _ r.xs _ _ _ ((hr.below (bel_drewN (Below.refl _ _) _)).more hsz) ((hr2.below (bel_drewN (Below.refl _ _) _)).more hsz) hrn)))
      go_wp2
      go_roundw
      case rel => exact ⟨k + 1, by omega, by go_num, bel_drewN hb _⟩
      case measure => simp [intOf]; omega
    · obtain rfl : k = n := by omega
      go_wp2
      go_ret
      exact ⟨rfl, hb⟩
end Go.Proofs.Ytomifedaiabapaa
