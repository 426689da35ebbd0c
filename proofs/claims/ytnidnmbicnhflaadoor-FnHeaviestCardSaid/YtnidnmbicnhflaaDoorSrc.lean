/- The reference's source of choices (l00Src): next, pick, one. What comes is in its range; nothing is said of which. -/
import Derived.Test.YtnidnmbicnhflaaDoorWords2
import Derived.Test.YtnidnmbicnhflaaDoorGcd
import Derived.Test.YtnidnmbicnhflaaDoorNest2
import Derived.Deep.QuietTactic
import Derived.BigQuiet
import Derived.Deep.RegionHeld3
namespace Go.Proofs.YtnidnmbicnhflaaDoor
open Go.RowKit
set_option linter.unusedVariables false

def bc (x : Int) : List Value := [.int .u8 x]
theorem bc_len (x : Int) : (bc x).length = 1 := rfl
theorem Bytes.at {w : World} {lo hi : Nat} {A : Option Addr} {n : Nat} {xs : List Int} (h : Arr bc 1 w lo hi A n xs) {i : Nat} (hi' : i < n) :
    ∃ b off x, A = some ⟨b, off, none⟩ ∧ xs[i]? = some x ∧ lo ≤ b ∧ b < hi ∧ w.cell? ⟨b, off + i, none⟩ = some (.int .u8 x) := by
  obtain ⟨b, off, x, h1, h2, h3, h4, hc⟩ := h.cells hi'
  exact ⟨b, off, x, h1, h2, h3, h4, by have := hc 0 _ rfl; rwa [Nat.mul_one] at this⟩
/-- block g is a source over the bytes xs, of which at most m have been asked for -/
def Src (w : World) (g B : Nat) (A : Option Addr) (n : Nat) (xs : List Int) (m : Nat) : Prop :=
  ∃ (c p : Nat) (seed : Int), p ≤ m ∧ 0 ≤ seed ∧ seed < 18446744073709551616 ∧ Blk w g 114 #[.slice A n c, .int .i64 p, .int .u64 seed] ∧ Arr bc 1 w 0 B A n xs ∧ (∀ x ∈ xs, 0 ≤ x ∧ x ≤ 255) ∧ B ≤ g
theorem Src.lt {w : World} {g B : Nat} {A : Option Addr} {n : Nat} {xs : List Int} {m : Nat} (h : Src w g B A n xs m) : g < w.heap.size := by
  obtain ⟨c, p, seed, _, _, _, hb, _⟩ := h; exact hb.lt
theorem Src.bel {w w' : World} {g B : Nat} {A : Option Addr} {n : Nat} {xs : List Int} {m : Nat} (h : Src w g B A n xs m) (hb : Below w.heap.size w w') : Src w' g B A n xs m := by
  obtain ⟨c, p, seed, h1, h2, h3, hk, ha, hx, hB⟩ := h
  have := hk.lt
  exact ⟨c, p, seed, h1, h2, h3, hk.bel hb, ha.below (hb.mono (by omega)), hx, hB⟩
theorem Src.far {w w' : World} {g B lo hi : Nat} {A : Option Addr} {n : Nat} {xs : List Int} {m : Nat} (h : Src w g B A n xs m) (hw : Within lo hi w w') (hg : g < lo) : Src w' g B A n xs m := by
  obtain ⟨c, p, seed, h1, h2, h3, hk, ha, hx, hB⟩ := h
  have := hk.lt
  exact ⟨c, p, seed, h1, h2, h3, (hw.block g this (.inl hg)).trans hk, ha.keep fun a _ ha2 => hw.cell (by omega) (by omega), hx, hB⟩
theorem Src.more {w : World} {g B : Nat} {A : Option Addr} {n : Nat} {xs : List Int} {m m' : Nat} (h : Src w g B A n xs m) (hm : m ≤ m') : Src w g B A n xs m' := by
  obtain ⟨c, p, seed, h1, h2⟩ := h; exact ⟨c, p, seed, by omega, h2⟩
/-- a call that asks a source: a number in a range, and the source -/
def Asks (g B : Nat) (A : Option Addr) (n : Nat) (xs : List Int) (m : Nat) (lo hi : Int) (w : World) (e : Ending) (w' : World) : Prop :=
  ∃ r : Int, e = .returned (.int .i64 r) ∧ lo ≤ r ∧ r ≤ hi ∧ Src w' g B A n xs m ∧ Within g (g + 1) w w'

theorem wraps_u64_64 (n : Int) (h₀ : 0 ≤ n) (h₁ : n < 2 ^ 64) : IntKind.u64.wrap n = n := by rw [IntKind.wrap_u64]; omega
theorem wrap_u64_bd (n : Int) : 0 ≤ IntKind.u64.wrap n ∧ IntKind.u64.wrap n < 18446744073709551616 := by rw [IntKind.wrap_u64]; omega
theorem and255 (a : Int) (h : 0 ≤ a) (h2 : a < 18446744073709551616) : 0 ≤ bits .and .u64 (a / 1099511627776) 255 ∧ bits .and .u64 (a / 1099511627776) 255 ≤ 255 := by
  obtain ⟨x, hx⟩ := Int.eq_ofNat_of_zero_le (show 0 ≤ a / 1099511627776 by omega)
  have h3 := (bits_nat .u64 64 (by decide) wraps_u64_64 x 255 (by omega) (by decide)).1
  rw [hx]
  rw [show (255 : Int) = ((255 : Nat) : Int) from rfl, h3]
  have := Nat.and_le_right (n := x) (m := 255)
  omega
set_option maxRecDepth 100000 in
set_option maxHeartbeats 1600000 in
theorem next_any (g B : Nat) (A : Option Addr) (n : Nat) (xs : List Int) (m : Nat) (hm : m ≤ 1000000) (hn : n ≤ 1000000) (w : World) (h : Src w g B A n xs m) :
    Calls Tryd.prog 118 #[.pointer (some ⟨g, 0, none⟩)] w (Asks g B A n xs (m + 1) 0 255 w) := by
  obtain ⟨c, p, seed, hp, hs0, hs1, hk, ha, hx, hB⟩ := h
  have e0 := (hk.cell 0).trans rfl
  have e1 := (hk.cell 1).trans rfl
  have e2 := (hk.cell 2).trans rfl
  have f1 := hk.frozen 1
  have f2 := hk.frozen 2
  have hgl := hk.lt
  have HK := Lib.hid hk
  have HA := Lib.hid ha
  have HX := Lib.hid hx
  clear hk ha hx
  by_cases hlt : p < n
  · obtain ⟨b, off, x, eA, hxx, _, hb, c0⟩ := Bytes.at HA.out hlt
    have hxb := HX.out x (List.mem_of_getElem? hxx)
    have hp0 : (0 : Int) ≤ (p : Int) := by omega
    have hp1 : (p : Int) < (n : Int) := by omega
    have hd1 : decide ((p : Int) < (n : Int)) = true := decide_eq_true hp1
    subst eA
    go_enter Tryd.func118, Tryd.ntmps118
    go_wp2
    go_quiet (fail)
    obtain ⟨nq1, hnq1⟩ : ∃ N, nq = N := ⟨_, rfl⟩
    rw [hnq1]
    go_wp2
    go_quiet (fail)
    go_wp2
    obtain ⟨s2, hs2⟩ : ∃ s2, IntKind.u64.wrap (IntKind.u64.wrap (IntKind.u64.wrap (seed * 6364136223846793005) + x) + 1442695040888963407) = s2 := ⟨_, rfl⟩
    have hsb := wrap_u64_bd (IntKind.u64.wrap (IntKind.u64.wrap (seed * 6364136223846793005) + x) + 1442695040888963407)
    rw [hs2] at hsb ⊢
    clear hs2
    obtain ⟨W, hW⟩ : ∃ W : World, W = ((w.drewN (nq1 + nq)).setCell ⟨g, 1, none⟩ (.int .i64 ((p : Int) + 1))).setCell ⟨g, 2, none⟩ (.int .u64 s2) := ⟨_, rfl⟩
    have hk2 : Blk W g 114 #[.slice (some ⟨b, off, none⟩) n c, .int .i64 ((p + 1 : Nat) : Int), .int .u64 s2] := by
      rw [hW]; exact ((show Blk (w.drewN (nq1 + nq)) g _ _ from HK.out).set_ 1 _).set_lit (by simp)
    have hwi : Within g (g + 1) w W := by
      rw [hW]; exact ((show Within g (g + 1) w (w.drewN (nq1 + nq)) from ⟨rfl, rfl, rfl, Nat.le_refl _, fun _ _ _ => rfl⟩).setCell (p := ⟨g, 1, none⟩) (Nat.le_refl _) (Nat.lt_succ_self _) _).setCell (p := ⟨g, 2, none⟩) (Nat.le_refl _) (Nat.lt_succ_self _) _
    rw [← hW]
    clear hW e0 e1 e2 f1 f2
    have e0 := (hk2.cell 0).trans rfl
    have e1 := (hk2.cell 1).trans rfl
    have hd2 : decide (((p + 1 : Nat) : Int) ≤ (n : Int)) = true := decide_eq_true (by omega)
    have HW := Lib.hid hwi
    have HK2 := Lib.hid hk2
    clear hwi hk2
    go_quiet (fail)
    go_wp2
    go_ret
    exact ⟨x, rfl, hxb.1, hxb.2, ⟨c, p + 1, s2, by omega, hsb.1, hsb.2, HK2.out, HA.out.keep fun a _ ha2 => HW.out.cell (by omega) (by omega), HX.out, hB⟩, HW.out.trans ⟨rfl, rfl, rfl, Nat.le_refl _, fun _ _ _ => rfl⟩⟩
  · have hd1 : decide ((p : Int) < (n : Int)) = false := decide_eq_false (by omega)
    go_enter Tryd.func118, Tryd.ntmps118
    go_wp2
    go_quiet (fail)
    go_wp2
    obtain ⟨s2, hs2⟩ : ∃ s2, IntKind.u64.wrap (IntKind.u64.wrap (IntKind.u64.wrap (seed * 6364136223846793005)) + 1442695040888963407) = s2 := ⟨_, rfl⟩
    have hsb := wrap_u64_bd (IntKind.u64.wrap (IntKind.u64.wrap (seed * 6364136223846793005)) + 1442695040888963407)
    rw [hs2] at hsb ⊢
    clear hs2
    obtain ⟨W, hW⟩ : ∃ W : World, W = ((w.drewN nq).setCell ⟨g, 1, none⟩ (.int .i64 ((p : Int) + 1))).setCell ⟨g, 2, none⟩ (.int .u64 s2) := ⟨_, rfl⟩
    have hk2 : Blk W g 114 #[.slice A n c, .int .i64 ((p + 1 : Nat) : Int), .int .u64 s2] := by
      rw [hW]; exact ((show Blk (w.drewN nq) g _ _ from HK.out).set_ 1 _).set_lit (by simp)
    have hwi : Within g (g + 1) w W := by
      rw [hW]; exact ((show Within g (g + 1) w (w.drewN nq) from ⟨rfl, rfl, rfl, Nat.le_refl _, fun _ _ _ => rfl⟩).setCell (p := ⟨g, 1, none⟩) (Nat.le_refl _) (Nat.lt_succ_self _) _).setCell (p := ⟨g, 2, none⟩) (Nat.le_refl _) (Nat.lt_succ_self _) _
    rw [← hW]
    clear hW e0 e1 e2 f1 f2
    have e0 := (hk2.cell 0).trans rfl
    have e1 := (hk2.cell 1).trans rfl
    have e2 := (hk2.cell 2).trans rfl
    have hd2 : decide (((p + 1 : Nat) : Int) ≤ (n : Int)) = false := decide_eq_false (by omega)
    have hab := and255 s2 hsb.1 hsb.2
    have HW := Lib.hid hwi
    have HK2 := Lib.hid hk2
    clear hwi hk2
    go_quiet (fail)
    go_wp2
    go_ret
    exact ⟨_, rfl, hab.1, hab.2, ⟨c, p + 1, s2, by omega, hsb.1, hsb.2, HK2.out, HA.out.keep fun a _ ha2 => HW.out.cell (by omega) (by omega), HX.out, hB⟩, HW.out.trans ⟨rfl, rfl, rfl, Nat.le_refl _, fun _ _ _ => rfl⟩⟩
end Go.Proofs.YtnidnmbicnhflaaDoor
