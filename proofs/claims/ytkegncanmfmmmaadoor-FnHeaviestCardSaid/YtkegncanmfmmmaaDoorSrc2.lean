/- Made by merge.py of XSrc, XSrc2. -/
import Derived.Test.YtkegncanmfmmmaaDoorWords2
import Derived.Test.YtkegncanmfmmmaaDoorGcd
import Derived.Test.YtkegncanmfmmmaaDoorNest2
import Derived.Deep.QuietTactic
import Derived.BigQuiet
import Derived.Deep.RegionHeld3
/- XSrc: The reference's source of choices (l00Src): next, pick, one. What comes is in its range; nothing is said of which. -/
namespace Go.Proofs.YtkegncanmfmmmaaDoor
open Go.RowKit
set_option linter.unusedVariables false

def bc (x : Int) : List Value := [.int .u8 x]
theorem bc_len (x : Int) : (bc x).length = 1 := rfl
theorem Bytes.at {w : World} {lo hi : Nat} {A : Option Addr} {n : Nat} {xs : List Int} (h : Arr bc 1 w lo hi A n xs) {i : Nat} (hi' : i < n) :
    ∃ b off x, A = some ⟨b, off, none⟩ ∧ xs[i]? = some x ∧ lo ≤ b ∧ b < hi ∧ w.cell? ⟨b, off + i, none⟩ = some (.int .u8 x) := by
  obtain ⟨b, off, x, h1, h2, h3, h4, hc⟩ := h.cells hi'
  exact ⟨b, off, x, h1, h2, h3, h4, by have := hc 0 _ rfl; rwa [Nat.mul_one] at this⟩
/-- block g is a source over the bytes xs, of which at most m have been asked for -/
def Src (w : World) (g B : Nat) (A : Option Addr) (n : Nat) (xs : List Int) (m : Nat) : Prop :=
  ∃ (c p : Nat) (seed : Int), p ≤ m ∧ 0 ≤ seed ∧ seed < 18446744073709551616 ∧ Blk w g 114 #[.slice A n c, .int .i64 p, .int .u64 seed] ∧ Arr bc 1 w 0 B A n xs ∧ (∀ x ∈ xs, 0 ≤ x ∧ x ≤ 255) ∧ B ≤ g
theorem Src.lt {w : World} {g B : Nat} {A : Option Addr} {n : Nat} {xs : List Int} {m : Nat} (h : Src w g B A n xs m) : g < w.heap.size := by
  obtain ⟨c, p, seed, _, _, _, hb, _⟩ := h; exact hb.lt
theorem Src.bel {w w' : World} {g B : Nat} {A : Option Addr} {n : Nat} {xs : List Int} {m : Nat} (h : Src w g B A n xs m) (hb : Below w.heap.size w w') : Src w' g B A n xs m := by
  obtain ⟨c, p, seed, h1, h2, h3, hk, ha, hx, hB⟩ := h
  have := hk.lt
  exact ⟨c, p, seed, h1, h2, h3, hk.bel hb, ha.below (hb.mono (by omega)), hx, hB⟩
theorem Src.far {w w' : World} {g B lo hi : Nat} {A : Option Addr} {n : Nat} {xs : List Int} {m : Nat} (h : Src w g B A n xs m) (hw : Within lo hi w w') (hg : g < lo) : Src w' g B A n xs m := by
  obtain ⟨c, p, seed, h1, h2, h3, hk, ha, hx, hB⟩ := h
  have := hk.lt
  exact ⟨c, p, seed, h1, h2, h3, (hw.block g this (.inl hg)).trans hk, ha.keep fun a _ ha2 => hw.cell (by omega) (by omega), hx, hB⟩
theorem Src.more {w : World} {g B : Nat} {A : Option Addr} {n : Nat} {xs : List Int} {m m' : Nat} (h : Src w g B A n xs m) (hm : m ≤ m') : Src w g B A n xs m' := by
  obtain ⟨c, p, seed, h1, h2⟩ := h; exact ⟨c, p, seed, by omega, h2⟩
/-- a call that asks a source: a number in a range, and the source -/
def Asks (g B : Nat) (A : Option Addr) (n : Nat) (xs : List Int) (m : Nat) (lo hi : Int) (w : World) (e : Ending) (w' : World) : Prop :=
  ∃ r : Int, e = .returned (.int .i64 r) ∧ lo ≤ r ∧ r ≤ hi ∧ Src w' g B A n xs m ∧ Within g (g + 1) w w'

theorem wraps_u64_64 (n : Int) (h₀ : 0 ≤ n) (h₁ : n < 2 ^ 64) : IntKind.u64.wrap n = n := by rw [IntKind.wrap_u64]; omega
theorem wrap_u64_bd (n : Int) : 0 ≤ IntKind.u64.wrap n ∧ IntKind.u64.wrap n < 18446744073709551616 := by rw [IntKind.wrap_u64]; omega
theorem and255 (a : Int) (h : 0 ≤ a) (h2 : a < 18446744073709551616) : 0 ≤ bits .and .u64 (a / 1099511627776) 255 ∧ bits .and .u64 (a / 1099511627776) 255 ≤ 255 := by
  obtain ⟨x, hx⟩ := Int.eq_ofNat_of_zero_le (show 0 ≤ a / 1099511627776 by omega)
  have h3 := (bits_nat .u64 64 (by decide) wraps_u64_64 x 255 (by omega) (by decide)).1
  rw [hx]
  rw [show (255 : Int) = ((255 : Nat) : Int) from rfl, h3]
  have := Nat.and_le_right (n := x) (m := 255)
  omega
set_option maxRecDepth 100000 in
set_option maxHeartbeats 1600000 in
theorem next_any (g B : Nat) (A : Option Addr) (n : Nat) (xs : List Int) (m : Nat) (hm : m ≤ 1000000) (hn : n ≤ 1000000) (w : World) (h : Src w g B A n xs m) :
    Calls Tryd.prog 118 #[.pointer (some ⟨g, 0, none⟩)] w (Asks g B A n xs (m + 1) 0 255 w) := by
  obtain ⟨c, p, seed, hp, hs0, hs1, hk, ha, hx, hB⟩ := h
  have e0 := (hk.cell 0).trans rfl
  have e1 := (hk.cell 1).trans rfl
  have e2 := (hk.cell 2).trans rfl
  have f1 := hk.frozen 1
  have f2 := hk.frozen 2
  have hgl := hk.lt
  have HK := Lib.hid hk
  have HA := Lib.hid ha
  have HX := Lib.hid hx
  clear hk ha hx
  by_cases hlt : p < n
  · obtain ⟨b, off, x, eA, hxx, _, hb, c0⟩ := Bytes.at HA.out hlt
    have hxb := HX.out x (List.mem_of_getElem? hxx)
    have hp0 : (0 : Int) ≤ (p : Int) := by omega
    have hp1 : (p : Int) < (n : Int) := by omega
    have hd1 : decide ((p : Int) < (n : Int)) = true := decide_eq_true hp1
    subst eA
    go_enter Tryd.func118, Tryd.ntmps118
    go_wp2
    go_quiet (fail)
    obtain ⟨nq1, hnq1⟩ : ∃ N, nq = N := ⟨_, rfl⟩
    rw [hnq1]
    go_wp2
    go_quiet (fail)
    go_wp2
    obtain ⟨s2, hs2⟩ : ∃ s2, IntKind.u64.wrap (IntKind.u64.wrap (IntKind.u64.wrap (seed * 6364136223846793005) + x) + 1442695040888963407) = s2 := ⟨_, rfl⟩
    have hsb := wrap_u64_bd (IntKind.u64.wrap (IntKind.u64.wrap (seed * 6364136223846793005) + x) + 1442695040888963407)
    rw [hs2] at hsb ⊢
    clear hs2
    obtain ⟨W, hW⟩ : ∃ W : World, W = ((w.drewN (nq1 + nq)).setCell ⟨g, 1, none⟩ (.int .i64 ((p : Int) + 1))).setCell ⟨g, 2, none⟩ (.int .u64 s2) := ⟨_, rfl⟩
    have hk2 : Blk W g 114 #[.slice (some ⟨b, off, none⟩) n c, .int .i64 ((p + 1 : Nat) : Int), .int .u64 s2] := by
      rw [hW]; exact ((show Blk (w.drewN (nq1 + nq)) g _ _ from HK.out).set_ 1 _).set_lit (by simp)
    have hwi : Within g (g + 1) w W := by
      rw [hW]; exact ((show Within g (g + 1) w (w.drewN (nq1 + nq)) from ⟨rfl, rfl, rfl, Nat.le_refl _, fun _ _ _ => rfl⟩).setCell (p := ⟨g, 1, none⟩) (Nat.le_refl _) (Nat.lt_succ_self _) _).setCell (p := ⟨g, 2, none⟩) (Nat.le_refl _) (Nat.lt_succ_self _) _
    rw [← hW]
    clear hW e0 e1 e2 f1 f2
    have e0 := (hk2.cell 0).trans rfl
    have e1 := (hk2.cell 1).trans rfl
    have hd2 : decide (((p + 1 : Nat) : Int) ≤ (n : Int)) = true := decide_eq_true (by omega)
    have HW := Lib.hid hwi
    have HK2 := Lib.hid hk2
    clear hwi hk2
    go_quiet (fail)
    go_wp2
    go_ret
    exact ⟨x, rfl, hxb.1, hxb.2, ⟨c, p + 1, s2, by omega, hsb.1, hsb.2, HK2.out, HA.out.keep fun a _ ha2 => HW.out.cell (by omega) (by omega), HX.out, hB⟩, HW.out.trans ⟨rfl, rfl, rfl, Nat.le_refl _, fun _ _ _ => rfl⟩⟩
  · have hd1 : decide ((p : Int) < (n : Int)) = false := decide_eq_false (by omega)
    go_enter Tryd.func118, Tryd.ntmps118
    go_wp2
    go_quiet (fail)
    go_wp2
    obtain ⟨s2, hs2⟩ : ∃ s2, IntKind.u64.wrap (IntKind.u64.wrap (IntKind.u64.wrap (seed * 6364136223846793005)) + 1442695040888963407) = s2 := ⟨_, rfl⟩
    have hsb := wrap_u64_bd (IntKind.u64.wrap (IntKind.u64.wrap (seed * 6364136223846793005)) + 1442695040888963407)
    rw [hs2] at hsb ⊢
    clear hs2
    obtain ⟨W, hW⟩ : ∃ W : World, W = ((w.drewN nq).setCell ⟨g, 1, none⟩ (.int .i64 ((p : Int) + 1))).setCell ⟨g, 2, none⟩ (.int .u64 s2) := ⟨_, rfl⟩
    have hk2 : Blk W g 114 #[.slice A n c, .int .i64 ((p + 1 : Nat) : Int), .int .u64 s2] := by
      rw [hW]; exact ((show Blk (w.drewN nq) g _ _ from HK.out).set_ 1 _).set_lit (by simp)
    have hwi : Within g (g + 1) w W := by
      rw [hW]; exact ((show Within g (g + 1) w (w.drewN nq) from ⟨rfl, rfl, rfl, Nat.le_refl _, fun _ _ _ => rfl⟩).setCell (p := ⟨g, 1, none⟩) (Nat.le_refl _) (Nat.lt_succ_self _) _).setCell (p := ⟨g, 2, none⟩) (Nat.le_refl _) (Nat.lt_succ_self _) _
    rw [← hW]
    clear hW e0 e1 e2 f1 f2
    have e0 := (hk2.cell 0).trans rfl
    have e1 := (hk2.cell 1).trans rfl
    have e2 := (hk2.cell 2).trans rfl
    have hd2 : decide (((p + 1 : Nat) : Int) ≤ (n : Int)) = false := decide_eq_false (by omega)
    have hab := and255 s2 hsb.1 hsb.2
    have HW := Lib.hid hwi
    have HK2 := Lib.hid hk2
    clear hwi hk2
    go_quiet (fail)
    go_wp2
    go_ret
    exact ⟨_, rfl, hab.1, hab.2, ⟨c, p + 1, s2, by omega, hsb.1, hsb.2, HK2.out, HA.out.keep fun a _ ha2 => HW.out.cell (by omega) (by omega), HX.out, hB⟩, HW.out.trans ⟨rfl, rfl, rfl, Nat.le_refl _, fun _ _ _ => rfl⟩⟩
end Go.Proofs.YtkegncanmfmmmaaDoor
/- XSrc2: The source of choices: pick, one; places and segments that are drawn: valid ones. -/
namespace Go.Proofs.YtkegncanmfmmmaaDoor
open Go.RowKit
set_option linter.unusedVariables false

theorem Within.fresh {lo hi : Nat} {a w : World} (h : Within lo hi a w) {p : Addr} (hp : a.heap.size ≤ p.block) (u : Value) : Within lo hi a (w.setCell p u) :=
  ⟨h.os, h.tape, h.output, by have := h.size; simpa using this, fun k hk ho => (Below.heap_setCell _ _ _ _ (by omega)).trans (h.block k hk ho)⟩
theorem Src.set {w : World} {g B : Nat} {A : Option Addr} {n : Nat} {xs : List Int} {m : Nat} (h : Src w g B A n xs m) {p : Addr} (hp : g < p.block) (u : Value) : Src (w.setCell p u) g B A n xs m :=
  h.far ((Within.refl p.block (p.block + 1) w).setCell (Nat.le_refl _) (Nat.lt_succ_self _) u) hp
theorem Blk.after {w w' : World} {g b : Nat} {t : TypeId} {cs : Array Value} (h : Blk w b t cs) (hw : Within g (g + 1) w w') (hne : g ≠ b) : Blk w' b t cs := (hw.block b h.lt (by omega)).trans h
set_option maxHeartbeats 1600000 in
theorem pick_any (g B : Nat) (A : Option Addr) (n : Nat) (xs : List Int) (m : Nat) (hm : m ≤ 999000) (hn : n ≤ 1000000) (k : Int) (hk1 : 1 < k) (hk2 : k ≤ 60000) (w : World) (h : Src w g B A n xs m) :
    Calls Tryd.prog 71 #[.pointer (some ⟨g, 0, none⟩), .int .i64 k] w (Asks g B A n xs (m + 2) 0 (k - 1) w) := by
  by_cases hbig : 200 < k
  · go_enter Tryd.func71, Tryd.ntmps71
    go_wp2_with fail
    refine (next_any g B A n xs m (by omega) hn w h).mono ?_
    rintro e w1 ⟨x, rfl, hx0, hx1, hs1, hw1⟩
    go_wp2_with fail
    refine (next_any g B A n xs (m + 1) (by omega) hn w1 hs1).mono ?_
    rintro e w2 ⟨y, rfl, hy0, hy1, hs2, hw2⟩
    have hz : 0 ≤ x * 256 + y ∧ x * 256 + y ≤ 65535 := by omega
    have hm0 := Int.emod_nonneg (x * 256 + y) (show k ≠ 0 by omega)
    have hm1 := Int.emod_lt_of_pos (x * 256 + y) (show 0 < k by omega)
    have hk0 : ¬ k = 0 := by omega
    have htm : Int.tmod (x * 256 + y) k = (x * 256 + y) % k := Int.tmod_eq_emod_of_nonneg hz.1
    go_wp2
    go_ret
    exact ⟨_, rfl, by omega, by omega, hs2, hw1.trans hw2⟩
  · go_enter Tryd.func71, Tryd.ntmps71
    go_wp2_with fail
    refine (next_any g B A n xs m (by omega) hn w h).mono ?_
    rintro e w1 ⟨x, rfl, hx0, hx1, hs1, hw1⟩
    have hm0 := Int.emod_nonneg x (show k ≠ 0 by omega)
    have hm1 := Int.emod_lt_of_pos x (show 0 < k by omega)
    have hk0 : ¬ k = 0 := by omega
    have htm : Int.tmod x k = x % k := Int.tmod_eq_emod_of_nonneg hx0
    go_wp2
    go_ret
    exact ⟨_, rfl, by omega, by omega, hs1.more (by omega), hw1⟩
/-- a call that asks a source: yes or no -/
def AsksB (g B : Nat) (A : Option Addr) (n : Nat) (xs : List Int) (m : Nat) (w : World) (e : Ending) (w' : World) : Prop :=
  ∃ r : Bool, e = .returned (.bool r) ∧ Src w' g B A n xs m ∧ Within g (g + 1) w w'
/-- a call that asks a source: a place in a square -/
def AsksP (g B : Nat) (A : Option Addr) (n : Nat) (xs : List Int) (m : Nat) (w : World) (e : Ending) (w' : World) : Prop :=
  ∃ x y : Int, e = .returned (.agg #[.int .i64 x, .int .i64 y]) ∧ -600 ≤ x ∧ x ≤ 600 ∧ -600 ≤ y ∧ y ≤ 600 ∧ Src w' g B A n xs m ∧ Within g (g + 1) w w'
set_option maxHeartbeats 1600000 in
theorem l02Draw_any (g B : Nat) (A : Option Addr) (n : Nat) (xs : List Int) (m : Nat) (hm : m ≤ 900000) (hn : n ≤ 1000000) (w : World) (h : Src w g B A n xs m) :
    Calls Tryd.prog 32 #[.pointer (some ⟨g, 0, none⟩)] w (AsksP g B A n xs (m + 4) w) := by
  have hg := h.lt
  obtain ⟨W, hW⟩ : ∃ W : World, W = w.alloc (.cells #[.int .i64 0, .int .i64 0] 29) := ⟨_, rfl⟩
  have hb : Below w.heap.size w W := by rw [hW]; exact (Below.refl _ _).alloc (Nat.le_refl _) _
  have hB : Blk W w.heap.size 29 #[.int .i64 0, .int .i64 0] := by rw [hW]; exact Blk.new _ _ _
  have hwb : Within g (g + 1) w W := .of_below _ _ hb
  go_enter Tryd.func32, Tryd.ntmps32
  go_wp2_with fail
  rw [← hW]
  clear hW
  refine (pick_any g B A n xs m (by omega) hn 1201 (by omega) (by omega) W (h.bel hb)).mono ?_
  rintro e w1 ⟨x, rfl, hx0, hx1, hs1, hw1⟩
  go_wp2_with fail
  refine (pick_any g B A n xs (m + 2) (by omega) hn 1201 (by omega) (by omega) w1 hs1).mono ?_
  rintro e w2 ⟨y, rfl, hy0, hy1, hs2, hw2⟩
  have hWs : w.heap.size < W.heap.size := hB.lt
  have hB2 := (hB.after hw1 (by omega)).after hw2 (by omega)
  have c0 := (hB2.cell 0).trans rfl
  have c1 := (hB2.cell 1).trans rfl
  have f0 := hB2.frozen 0
  have f1 := hB2.frozen 1
  go_wp2
  exact bodyPost_ret (v := .agg #[.int .i64 (x - 600), .int .i64 (y - 600)]) (by simp [results, Tryd.results32, go_sem, c0, c1]) rfl
    ⟨_, _, rfl, by omega, by omega, by omega, by omega, (hs2.set (p := ⟨w.heap.size, 0, none⟩) hg _).set (p := ⟨w.heap.size, 1, none⟩) hg _, (((hwb.trans hw1).trans hw2).fresh (p := ⟨w.heap.size, 0, none⟩) (Nat.le_refl _) _).fresh (p := ⟨w.heap.size, 1, none⟩) (Nat.le_refl _) _⟩
/-- a segment's four numbers -/
structure Seg where
  ax : Int
  ay : Int
  bx : Int
  by_ : Int
def Seg.val (s : Seg) : Value := .agg #[.agg #[.int .i64 s.ax, .int .i64 s.ay], .agg #[.int .i64 s.bx, .int .i64 s.by_]]
structure Seg.ok (s : Seg) : Prop where
  ax : -600 ≤ s.ax ∧ s.ax ≤ 600
  ay : -600 ≤ s.ay ∧ s.ay ≤ 600
  bx : -600 ≤ s.bx ∧ s.bx ≤ 600
  by_ : -600 ≤ s.by_ ∧ s.by_ ≤ 600
def AsksS (g B : Nat) (A : Option Addr) (n : Nat) (xs : List Int) (m : Nat) (w : World) (e : Ending) (w' : World) : Prop :=
  ∃ s : Seg, e = .returned (.agg #[.int .i64 s.ax, .int .i64 s.ay, .int .i64 s.bx, .int .i64 s.by_]) ∧ s.ok ∧ Src w' g B A n xs m ∧ Within g (g + 1) w w'
end Go.Proofs.YtkegncanmfmmmaaDoor
