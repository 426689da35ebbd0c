/- Zone: the record (points in it, a slice at its end), and the contracts of the laws' own functions over it: size, copy, equality. -/
import Derived.Test.YtdhobglhjdgboaaDoorProg
import Derived.Test.YtdhobglhjdgboaaDoorNest2
import Derived.Test.YtdhobglhjdgboaaDoorPut
import Derived.Test.YtdhobglhjdgboaaDoorRPnt
import Derived.Deep.RegionHeld3
import Derived.Deep.QuietTactic
import Derived.BigQuiet
import Derived.KernelRfl
namespace Go.Proofs.YtdhobglhjdgboaaDoor
open Go.RowKit
set_option linter.unusedVariables false

structure ZoneV where
  kind : Int
  storeys : Int
  each : Int
/-- the record and where its slice lies -/
structure Zone where
  v : ZoneV
  r : Row Pnt
def Zone.val (p : Zone) : ZoneV × List Pnt := (p.v, p.r.xs)
def Zone.cs (p : Zone) : List Value := [.int .i64 p.v.kind, .int .i64 p.v.storeys, .int .i64 p.v.each, .slice p.r.a p.r.n p.r.cap]
theorem Zone.cs_len (p : Zone) : p.cs.length = 4 := rfl
theorem Zone.cs_one (p : Zone) : ∀ u ∈ p.cs, u.oneCell' = true := by intro u hu; simp [Zone.cs] at hu; rcases hu with rfl | rfl | rfl | rfl <;> rfl
structure ZoneV.wf (p : ZoneV) : Prop where
  kind : -9223372036854775808 ≤ p.kind ∧ p.kind ≤ 9223372036854775807
  storeys : -9223372036854775808 ≤ p.storeys ∧ p.storeys ≤ 9223372036854775807
  each : -9223372036854775808 ≤ p.each ∧ p.each ≤ 9223372036854775807
structure Zone.wf (p : Zone) : Prop where
  v : p.v.wf
  n : p.r.n ≤ 9223372036854775807
  xs : ∀ x ∈ p.r.xs, Pnt.wf x
abbrev Zones (w : World) (lo hi : Nat) (A : Option Addr) (n : Nat) (ps : List Zone) : Prop := NArr Zone.cs 4 Pnt.cs 2 Zone.r w lo hi A n ps
abbrev ZonesOwn (w : World) (lo hi : Nat) (A : Option Addr) (n : Nat) (ps : List Zone) : Prop := NOwn Zone.cs 4 127 Pnt.cs 2 41 Zone.r w lo hi A n ps
theorem Zone.at {w : World} {lo hi : Nat} {A : Option Addr} {n : Nat} {xs : List Zone} (h : Zones w lo hi A n xs) {i : Nat} (hi' : i < n) :
    ∃ b off p, A = some ⟨b, off, none⟩ ∧ xs[i]? = some p ∧ lo ≤ b ∧ b < hi ∧ Arr Pnt.cs 2 w lo hi p.r.a p.r.n p.r.xs ∧ w.cell? ⟨b, off + i * 4, none⟩ = some (.int .i64 p.v.kind) ∧ w.cell? ⟨b, off + i * 4 + 1, none⟩ = some (.int .i64 p.v.storeys) ∧ w.cell? ⟨b, off + i * 4 + 2, none⟩ = some (.int .i64 p.v.each) ∧ w.cell? ⟨b, off + i * 4 + 3, none⟩ = some (.slice p.r.a p.r.n p.r.cap) := by
  obtain ⟨b, off, p, h1, h2, h3, h4, hc⟩ := h.1.cells hi'
  exact ⟨b, off, p, h1, h2, h3, h4, h.2 p (List.mem_of_getElem? h2), hc 0 _ rfl, hc 1 _ rfl, hc 2 _ rfl, hc 3 _ rfl⟩
theorem Zone.blk {w : World} {g : Nat} {t : TypeId} {v0 v1 v2 v3 : Value} (h : Blk w g t #[v0, v1, v2, v3]) : w.cell? ⟨g, 0, none⟩ = some v0 ∧ w.cell? ⟨g, 1, none⟩ = some v1 ∧ w.cell? ⟨g, 2, none⟩ = some v2 ∧ w.cell? ⟨g, 3, none⟩ = some v3 := ⟨(h.cell 0).trans rfl, (h.cell 1).trans rfl, (h.cell 2).trans rfl, (h.cell 3).trans rfl⟩
theorem Zone.fro {w : World} {g : Nat} {t : TypeId} {cs : Array Value} (h : Blk w g t cs) : w.frozen? ⟨g, 0, none⟩ = false ∧ w.frozen? ⟨g, 1, none⟩ = false ∧ w.frozen? ⟨g, 2, none⟩ = false ∧ w.frozen? ⟨g, 3, none⟩ = false := ⟨h.frozen 0, h.frozen 1, h.frozen 2, h.frozen 3⟩
def Zone.sz (p : Zone) : Nat := p.r.n
set_option maxRecDepth 100000 in
set_option maxHeartbeats 400000 in
theorem szZone_ok (p : Zone) (left : Int) (w : World) (hX : Arr Pnt.cs 2 w 0 w.heap.size p.r.a p.r.n p.r.xs) (hp : p.wf) (h0 : 0 ≤ left) (h1 : left ≤ 1048576) (h : (p.sz : Int) ≤ left) :
    Calls Tryd.prog 71 #[.agg #[.int .i64 p.v.kind, .int .i64 p.v.storeys, .int .i64 p.v.each, .slice p.r.a p.r.n p.r.cap], .int .i64 left] w fun e w' => e = .returned (.int .i64 (left - (p.sz : Int))) ∧ Below w.heap.size w w' := by
  have hr := hp.n
  have hxs := hp.xs
  have hz : szPntS p.r.n p.r.xs = (p.r.n : Int) := rfl
  unfold Zone.sz at *
  go_enter Tryd.func71, Tryd.ntmps71
  go_wp2_with (go_at_call 156; refine (szPntS_ok _ _ _ p.r.xs _ _ 0 (hX.below ((Below.refl _ _).alloc (Nat.le_refl _) _) |>.more (by simp)) hr hxs (by omega) (by omega) (by unfold szPntS; omega)).mono ?_; rintro e w1 ⟨rfl, hb1⟩)
  go_ret
  exact ⟨ret_int (by omega), ((Below.refl _ _).alloc (Nat.le_refl _) _).trans (hb1.mono (by simp))⟩
set_option maxRecDepth 100000 in
set_option maxHeartbeats 400000 in
theorem szZone_no (p : Zone) (left : Int) (w : World) (hX : Arr Pnt.cs 2 w 0 w.heap.size p.r.a p.r.n p.r.xs) (hp : p.wf) (h0 : 0 ≤ left) (h1 : left ≤ 1048576) (h : left < (p.sz : Int)) :
    Calls Tryd.prog 71 #[.agg #[.int .i64 p.v.kind, .int .i64 p.v.storeys, .int .i64 p.v.each, .slice p.r.a p.r.n p.r.cap], .int .i64 left] w fun e w' => e = .returned (.int .i64 (-1)) ∧ Below w.heap.size w w' := by
  have hr := hp.n
  have hxs := hp.xs
  have hz : szPntS p.r.n p.r.xs = (p.r.n : Int) := rfl
  unfold Zone.sz at *
  go_enter Tryd.func71, Tryd.ntmps71
  go_wp2_with (go_at_call 156; refine (szPntS_no _ _ _ p.r.xs _ _ 0 (hX.below ((Below.refl _ _).alloc (Nat.le_refl _) _) |>.more (by simp)) hr hxs (by omega) (by omega) (by unfold szPntS; omega)).mono ?_; rintro e w1 ⟨rfl, hb1⟩)
  go_ret
  exact ⟨rfl, ((Below.refl _ _).alloc (Nat.le_refl _) _).trans (hb1.mono (by simp))⟩
def szZoneS (n : Nat) (ps : List Zone) : Int := (n : Int) + (tot Zone.sz ps : Nat)
set_option maxRecDepth 100000 in
set_option maxHeartbeats 800000 in
theorem szZoneS_ok (A : Option Addr) (n c : Nat) (ps : List Zone) (left : Int) (w : World) (lo : Nat) (h : Zones w lo w.heap.size A n ps) (hn : n ≤ 9223372036854775807) (hp : ∀ p ∈ ps, p.wf) (h0 : 0 ≤ left) (h1 : left ≤ 1048576) (hs : szZoneS n ps ≤ left) :
    Calls Tryd.prog 16 #[.slice A n c, .int .i64 left] w fun e w' => e = .returned (.int .i64 (left - szZoneS n ps)) ∧ Below w.heap.size w w' := by
  have HS := Lib.hid hs
  clear hs
  by_cases hl : (n : Int) ≤ left
  · go_enter Tryd.func16, Tryd.ntmps16
    go_wp2
    go_loopw [1, 5] (fun l i wr => ∃ k : Nat, k ≤ n ∧ i = .int .i64 k ∧ l = .int .i64 (left - n - (tot Zone.sz (ps.take k) : Nat)) ∧ 0 ≤ left - n - (tot Zone.sz (ps.take k) : Nat) ∧ Below w.heap.size w wr) (fun _ i _ => n - (intOf i).toNat)
    case atStart => exact ⟨0, Nat.zero_le _, rfl, by simp [tot], by simp [tot]; omega, Below.refl _ _⟩
    case round =>
      obtain ⟨k, hk, rfl, rfl, hr, hb⟩ := hrel
      by_cases hlt : k < n
      · obtain ⟨b, off, p, rfl, hx, _, hbl, hRow, c0, c1, c2, c3⟩ := Zone.at (h.below hb) hlt
        have hpw := hp p (List.mem_of_getElem? hx)
        have HT := Lib.hid (tot_snoc Zone.sz ps k p hx)
        have HL := Lib.hid (tot_le Zone.sz ps (k + 1))
        generalize tot Zone.sz (ps.take k) = T at *
        by_cases hle : (p.sz : Int) ≤ left - n - T
        · go_wp2_with (go_at_call 71; refine (szZone_ok p _ _ (hRow.less (Nat.zero_le _) |>.more hb.size) hpw (by omega) (by omega) (by omega)).mono ?_; rintro e w1 ⟨rfl, hb1⟩)
          go_roundw
          case rel => exact ⟨k + 1, by omega, by go_num, by rw [HT.out]; go_num, by rw [HT.out]; omega, hb.trans (hb1.mono hb.size)⟩
          case measure => simp [intOf]; omega
        · go_wp2_with (go_at_call 71; refine (szZone_no p _ _ (hRow.less (Nat.zero_le _) |>.more hb.size) hpw (by omega) (by omega) (by omega)).mono ?_; rintro e w1 ⟨rfl, hb1⟩)
          go_ret
          exact absurd HS.out (by have h1 := HT.out; have h2 := HL.out; rw [h1] at h2; unfold szZoneS; omega)
      · obtain rfl : k = n := by omega
        go_wp2
        go_ret
        exact ⟨ret_int (by unfold szZoneS; rw [List.take_of_length_le (by rw [h.len]; exact Nat.le_refl _)]; omega), hb⟩
  · exact absurd HS.out (by unfold szZoneS; omega)
set_option maxRecDepth 100000 in
set_option maxHeartbeats 800000 in
theorem szZoneS_no (A : Option Addr) (n c : Nat) (ps : List Zone) (left : Int) (w : World) (lo : Nat) (h : Zones w lo w.heap.size A n ps) (hn : n ≤ 9223372036854775807) (hp : ∀ p ∈ ps, p.wf) (h0 : 0 ≤ left) (h1 : left ≤ 1048576) (hs : left < szZoneS n ps) :
    Calls Tryd.prog 16 #[.slice A n c, .int .i64 left] w fun e w' => e = .returned (.int .i64 (-1)) ∧ Below w.heap.size w w' := by
  have HS := Lib.hid hs
  clear hs
  by_cases hl : (n : Int) ≤ left
  · go_enter Tryd.func16, Tryd.ntmps16
    go_wp2
    go_loopw [1, 5] (fun l i wr => ∃ k : Nat, k ≤ n ∧ i = .int .i64 k ∧ l = .int .i64 (left - n - (tot Zone.sz (ps.take k) : Nat)) ∧ 0 ≤ left - n - (tot Zone.sz (ps.take k) : Nat) ∧ Below w.heap.size w wr) (fun _ i _ => n - (intOf i).toNat)
    case atStart => exact ⟨0, Nat.zero_le _, rfl, by simp [tot], by simp [tot]; omega, Below.refl _ _⟩
    case round =>
      obtain ⟨k, hk, rfl, rfl, hr, hb⟩ := hrel
      by_cases hlt : k < n
      · obtain ⟨b, off, p, rfl, hx, _, hbl, hRow, c0, c1, c2, c3⟩ := Zone.at (h.below hb) hlt
        have hpw := hp p (List.mem_of_getElem? hx)
        have HT := Lib.hid (tot_snoc Zone.sz ps k p hx)
        have HL := Lib.hid (tot_le Zone.sz ps (k + 1))
        generalize tot Zone.sz (ps.take k) = T at *
        by_cases hle : (p.sz : Int) ≤ left - n - T
        · go_wp2_with (go_at_call 71; refine (szZone_ok p _ _ (hRow.less (Nat.zero_le _) |>.more hb.size) hpw (by omega) (by omega) (by omega)).mono ?_; rintro e w1 ⟨rfl, hb1⟩)
          go_roundw
          case rel => exact ⟨k + 1, by omega, by go_num, by rw [HT.out]; go_num, by rw [HT.out]; omega, hb.trans (hb1.mono hb.size)⟩
          case measure => simp [intOf]; omega
        · go_wp2_with (go_at_call 71; refine (szZone_no p _ _ (hRow.less (Nat.zero_le _) |>.more hb.size) hpw (by omega) (by omega) (by omega)).mono ?_; rintro e w1 ⟨rfl, hb1⟩)
          go_ret
          exact ⟨rfl, hb.trans (hb1.mono hb.size)⟩
      · obtain rfl : k = n := by omega
        go_wp2
        go_ret
        exact absurd HS.out (by rw [List.take_of_length_le (by rw [h.len]; exact Nat.le_refl _)] at hr; unfold szZoneS; omega)
  · go_enter Tryd.func16, Tryd.ntmps16
    go_wp2
    go_ret
    exact ⟨rfl, Below.refl _ _⟩

/-- a call that hands back a copy with a row of its own -/
def ToZone (w : World) (p : Zone) (e : Ending) (w' : World) : Prop :=
  ∃ g, e = .returned (.agg #[.int .i64 p.v.kind, .int .i64 p.v.storeys, .int .i64 p.v.each, .slice (some ⟨g, 0, none⟩) p.r.n p.r.n]) ∧ Own Pnt.cs 2 w' w.heap.size w'.heap.size 41 (some ⟨g, 0, none⟩) p.r.n p.r.xs ∧ Below w.heap.size w w'
set_option maxRecDepth 100000 in
set_option maxHeartbeats 3200000 in
theorem toZone_any (p : Zone) (w : World) (lo : Nat) (hr : Arr Pnt.cs 2 w lo w.heap.size p.r.a p.r.n p.r.xs) (hn : p.r.n ≤ 1048576) :
    Calls Tryd.prog 79 #[.agg #[.int .i64 p.v.kind, .int .i64 p.v.storeys, .int .i64 p.v.each, .slice p.r.a p.r.n p.r.cap]] w (ToZone w p) := by
  go_enter Tryd.func79, Tryd.ntmps79
  go_wp2_with fail
  have A0 := (Below.refl w.heap.size w).alloc (Nat.le_refl _) (Obj.cells #[.int .i64 p.v.kind, .int .i64 p.v.storeys, .int .i64 p.v.each, .slice p.r.a p.r.n p.r.cap] 119)
  have A1 := A0.alloc (by simp) (Obj.cells #[.int .i64 0, .int .i64 0, .int .i64 0, .slice none 0 0] 127)
  have hbX := A1.alloc (by simp; omega) (Obj.cells #[.int .i64 p.v.kind, .int .i64 p.v.storeys, .int .i64 p.v.each, .slice none 0 0] 127)
  have P9 := ((Blk.new w 119 #[.int .i64 p.v.kind, .int .i64 p.v.storeys, .int .i64 p.v.each, .slice p.r.a p.r.n p.r.cap]).alloc (Obj.cells #[.int .i64 0, .int .i64 0, .int .i64 0, .slice none 0 0] 127)).alloc (Obj.cells #[.int .i64 p.v.kind, .int .i64 p.v.storeys, .int .i64 p.v.each, .slice none 0 0] 127)
  have R9 := (Blk.new_at (w := w.alloc (Obj.cells #[.int .i64 p.v.kind, .int .i64 p.v.storeys, .int .i64 p.v.each, .slice p.r.a p.r.n p.r.cap] 119)) (cs := #[.int .i64 0, .int .i64 0, .int .i64 0, .slice none 0 0]) (t := 127) rfl (by simp) : Blk _ (w.heap.size + 1) _ _).alloc (Obj.cells #[.int .i64 p.v.kind, .int .i64 p.v.storeys, .int .i64 p.v.each, .slice none 0 0] 127)
  have O9 := (Blk.new_at (w := (w.alloc (Obj.cells #[.int .i64 p.v.kind, .int .i64 p.v.storeys, .int .i64 p.v.each, .slice p.r.a p.r.n p.r.cap] 119)).alloc (Obj.cells #[.int .i64 0, .int .i64 0, .int .i64 0, .slice none 0 0] 127)) (cs := #[.int .i64 p.v.kind, .int .i64 p.v.storeys, .int .i64 p.v.each, .slice none 0 0]) (t := 127) rfl (by simp) : Blk _ (w.heap.size + 1 + 1) _ _)
  clear A0 A1
  refine (toPntS_any _ _ _ p.r.xs _ lo ((hr.below hbX).more hbX.size) hn).mono ?_
  rintro _ x0 ⟨g, rfl, ho, hb0⟩
  have hbZ := hbX.trans (hb0.mono hbX.size)
  have P0 := P9.bel hb0
  have R0 := R9.bel hb0
  have O0 : Blk x0 (w.heap.size + 1 + 1) 127 #[.int .i64 p.v.kind, .int .i64 p.v.storeys, .int .i64 p.v.each, .slice none 0 0] := O9.bel hb0
  have hsX : w.heap.size + 1 + 1 < _ := O9.lt
  clear hbX P9 R9 O9 hb0
  have hs0 : w.heap.size + 1 + 1 < x0.heap.size := O0.lt
  obtain ⟨a0, a1, a2, a3⟩ := Zone.blk P0
  obtain ⟨b0, b1, b2, b3⟩ := Zone.blk R0
  obtain ⟨d0, d1, d2, d3⟩ := Zone.blk O0
  obtain ⟨f0, f1, f2, f3⟩ := Zone.fro R0
  obtain ⟨g0, g1, g2, g3⟩ := Zone.fro O0
  go_wp2
  have hfin := ((((((Within.refl w.heap.size (w.heap.size + 3) x0).setCell (p := ⟨w.heap.size + 1 + 1, 3, none⟩) (by dsimp only; omega) (by dsimp only; omega) (.slice (some ⟨g, 0, none⟩) p.r.n p.r.n)).setCell (p := ⟨w.heap.size + 1, 0, none⟩) (by dsimp only; omega) (by dsimp only; omega) (.int .i64 p.v.kind)).setCell (p := ⟨w.heap.size + 1, 1, none⟩) (by dsimp only; omega) (by dsimp only; omega) (.int .i64 p.v.storeys)).setCell (p := ⟨w.heap.size + 1, 2, none⟩) (by dsimp only; omega) (by dsimp only; omega) (.int .i64 p.v.each)).setCell (p := ⟨w.heap.size + 1, 3, none⟩) (by dsimp only; omega) (by dsimp only; omega) (.slice (some ⟨g, 0, none⟩) p.r.n p.r.n))
  have hbf := (((((hbZ.setCell (p := ⟨w.heap.size + 1 + 1, 3, none⟩) (by dsimp only; omega) (.slice (some ⟨g, 0, none⟩) p.r.n p.r.n)).setCell (p := ⟨w.heap.size + 1, 0, none⟩) (by dsimp only; omega) (.int .i64 p.v.kind)).setCell (p := ⟨w.heap.size + 1, 1, none⟩) (by dsimp only; omega) (.int .i64 p.v.storeys)).setCell (p := ⟨w.heap.size + 1, 2, none⟩) (by dsimp only; omega) (.int .i64 p.v.each)).setCell (p := ⟨w.heap.size + 1, 3, none⟩) (by dsimp only; omega) (.slice (some ⟨g, 0, none⟩) p.r.n p.r.n))
  have RF : Blk _ (w.heap.size + 1) 127 #[.int .i64 p.v.kind, .int .i64 p.v.storeys, .int .i64 p.v.each, .slice (some ⟨g, 0, none⟩) p.r.n p.r.n] := ((((((R0.far (p := ⟨w.heap.size + 1 + 1, 3, none⟩) (by dsimp only; omega) (.slice (some ⟨g, 0, none⟩) p.r.n p.r.n))).set_ 0 (.int .i64 p.v.kind)).set_ 1 (.int .i64 p.v.storeys)).set_ 2 (.int .i64 p.v.each)).set_ 3 (.slice (some ⟨g, 0, none⟩) p.r.n p.r.n))
  clear a0 a1 a2 a3 b0 b1 b2 b3 d0 d1 d2 d3 f0 g0 f1 g1 f2 g2 f3 g3 R0 O0 P0
  revert hfin hbf RF
  generalize (((((x0.setCell ⟨w.heap.size + 1 + 1, 3, none⟩ (.slice (some ⟨g, 0, none⟩) p.r.n p.r.n)).setCell ⟨w.heap.size + 1, 0, none⟩ (.int .i64 p.v.kind)).setCell ⟨w.heap.size + 1, 1, none⟩ (.int .i64 p.v.storeys)).setCell ⟨w.heap.size + 1, 2, none⟩ (.int .i64 p.v.each)).setCell ⟨w.heap.size + 1, 3, none⟩ (.slice (some ⟨g, 0, none⟩) p.r.n p.r.n)) = Wf
  intro hfin hbf RF
  obtain ⟨a0, a1, a2, a3⟩ := Zone.blk RF
  refine bodyPost_ret (v := .agg #[.int .i64 p.v.kind, .int .i64 p.v.storeys, .int .i64 p.v.each, .slice (some ⟨g, 0, none⟩) p.r.n p.r.n]) (by simp [results, Tryd.results79, go_sem, a0, a1, a2, a3]) rfl ⟨g, rfl, ?_, hbf⟩
  exact ((ho.within hfin (.inr (by omega))).wide (by omega) hfin.size)

theorem ZoneInfo : (Tryd.prog.info? 127).map (fun i => (i.zero, i.size, i.bytes)) = some (some (.agg #[.int .i64 0, .int .i64 0, .int .i64 0, .slice none 0 0]), 4, 48) := by kernel_rfl
def ToZoneS (w : World) (n : Nat) (ps : List Zone) (e : Ending) (w' : World) : Prop :=
  ∃ g ps', e = .returned (.slice (some ⟨g, 0, none⟩) n n) ∧ ps'.map Zone.val = ps.map Zone.val ∧ ZonesOwn w' w.heap.size w'.heap.size (some ⟨g, 0, none⟩) n ps' ∧ Below w.heap.size w w'
set_option maxHeartbeats 3200000 in
theorem toZoneS_any (A : Option Addr) (n c : Nat) (ps : List Zone) (w : World) (lo : Nat) (h : Zones w lo w.heap.size A n ps) (hn : n ≤ 1048576) (hp : ∀ p ∈ ps, p.r.n ≤ 1048576) :
    Calls Tryd.prog 19 #[.slice A n c] w (ToZoneS w n ps) := by
  obtain ⟨i0, hi, hz0, hz1, hz2⟩ := info_parts ZoneInfo
  have hmk := fun W => run_make_rowN (P := Tryd.prog) 46 127 i0 _ Tryd.underlying46 hi hz0 .i64 .i64 n n (Nat.le_refl _) (by rw [hz2]; omega) (by omega) W
  rw [hz1] at hmk
  go_enter Tryd.func19, Tryd.ntmps19
  go_wp2
  clear hmk
  go_loopw [4] (fun i wr => ∃ (k : Nat) (cs : Array Value) (out : List Zone), k ≤ n ∧ i = .int .i64 k ∧ Blk wr w.heap.size 127 cs ∧ cs.size = n * 4 ∧ Laid Zone.val Zone.cs 4 Pnt.cs 2 41 Zone.r wr (w.heap.size + 1) cs ps k out ∧ w.heap.size + 1 ≤ wr.heap.size ∧ Below w.heap.size w wr) (fun i _ => n - (intOf i).toNat)
  case atStart => exact ⟨0, _, [], Nat.zero_le _, rfl, Blk.new _ _ _, by simp [size_madeCells], Laid.start _ _ _ _ (by simp), by simp, (Below.refl _ _).alloc (Nat.le_refl _) _⟩
  case round =>
    obtain ⟨k, cs, out, hk, rfl, hblk, hsz, hlaid, hws, hb⟩ := hrel
    have HZ := Lib.hid hsz
    clear hsz
    by_cases hlt : k < n
    · obtain ⟨b, off, p, rfl, hx, _, hbl, hrow, c0, c1, c2, c3⟩ := Zone.at (h.below hb) hlt
      have hrn := hp p (List.mem_of_getElem? hx)
      have hg := hblk.lt
      have HX := Lib.hid hx
      have HL := Lib.hid hlaid
      have hsz2 := hb.size
      obtain ⟨u0, e0⟩ : ∃ u, wr.cell? ⟨w.heap.size, k * 4, none⟩ = some u := hblk.there (by have := HZ.out; omega)
      obtain ⟨u1, e1⟩ : ∃ u, wr.cell? ⟨w.heap.size, k * 4 + 1, none⟩ = some u := hblk.there (by have := HZ.out; omega)
      obtain ⟨u2, e2⟩ : ∃ u, wr.cell? ⟨w.heap.size, k * 4 + 2, none⟩ = some u := hblk.there (by have := HZ.out; omega)
      obtain ⟨u3, e3⟩ : ∃ u, wr.cell? ⟨w.heap.size, k * 4 + 3, none⟩ = some u := hblk.there (by have := HZ.out; omega)
      have f0 := hblk.frozen (k * 4)
      have f1 := hblk.frozen (k * 4 + 1)
      have f2 := hblk.frozen (k * 4 + 2)
      have f3 := hblk.frozen (k * 4 + 3)
      have HB := Lib.hid hblk
      have hk0 : (0 : Int) ≤ (k : Int) := by omega
      have hk1 : (k : Int) < (n : Int) := by omega
      clear hblk hx hlaid
      go_wp2_with (go_at_call 79; refine (toZone_any p _ _ (hrow.more hsz2) hrn).mono ?_; rintro e w1 ⟨g, rfl, ho, hb1⟩; have e01 := (hb1.cell (p := ⟨w.heap.size, k * 4, none⟩) hg).trans e0; have f01 := (hb1.frozen (p := ⟨w.heap.size, k * 4, none⟩) hg).trans f0; have e11 := (hb1.cell (p := ⟨w.heap.size, k * 4 + 1, none⟩) hg).trans e1; have f11 := (hb1.frozen (p := ⟨w.heap.size, k * 4 + 1, none⟩) hg).trans f1; have e21 := (hb1.cell (p := ⟨w.heap.size, k * 4 + 2, none⟩) hg).trans e2; have f21 := (hb1.frozen (p := ⟨w.heap.size, k * 4 + 2, none⟩) hg).trans f2; have e31 := (hb1.cell (p := ⟨w.heap.size, k * 4 + 3, none⟩) hg).trans e3; have f31 := (hb1.frozen (p := ⟨w.heap.size, k * 4 + 3, none⟩) hg).trans f3)
      go_roundw
      case rel => exact ⟨k + 1, _, _, by omega, by go_num, ((((HB.out.below hb1 hg).set_ (k * 4) (.int .i64 p.v.kind)).set_ (k * 4 + 1) (.int .i64 p.v.storeys)).set_ (k * 4 + 2) (.int .i64 p.v.each)).set_ (k * 4 + 3) (.slice (some ⟨g, 0, none⟩) p.r.n p.r.n), by simp [HZ.out], (HL.out.step (p' := ⟨p.v, ⟨some ⟨g, 0, none⟩, p.r.n, p.r.n, p.r.xs⟩⟩) HX.out rfl (fun hf => hf.put4 (x := ⟨p.v, ⟨some ⟨g, 0, none⟩, p.r.n, p.r.n, p.r.xs⟩⟩) (by rw [← HL.out.len]; simp) (by have := HZ.out; omega)) hb1 ho).within (((((Within.refl w.heap.size (w.heap.size + 1) w1).setCell (Nat.le_refl _) (by simp) _).setCell (Nat.le_refl _) (by simp) _).setCell (Nat.le_refl _) (by simp) _).setCell (Nat.le_refl _) (by simp) _) (by omega), by have := hb1.size; simp; omega, ((((hb.trans (hb1.mono hb.size)).setCell (Nat.le_refl _) _).setCell (Nat.le_refl _) _).setCell (Nat.le_refl _) _).setCell (Nat.le_refl _) _⟩
      case measure => simp [intOf]; omega
    · obtain rfl : k = n := by omega
      go_wp2
      go_ret
      exact ⟨w.heap.size, out, rfl, by rw [hlaid.val_, List.take_of_length_le (by rw [List.length_map, h.len]; exact Nat.le_refl _)], hlaid.nown hblk (by rw [HZ.out]; exact Nat.le_refl _), hb⟩

set_option maxRecDepth 100000 in
set_option maxHeartbeats 3200000 in
theorem eqZone_same (v : ZoneV) (r r2 : Row Pnt) (w : World) (lo lo2 : Nat) (hx : r.xs = r2.xs) (h : Arr Pnt.cs 2 w lo w.heap.size r.a r.n r.xs) (h2 : Arr Pnt.cs 2 w lo2 w.heap.size r2.a r2.n r2.xs) (hn : r.n ≤ 9223372036854775807) :
    Calls Tryd.prog 89 #[.agg #[.int .i64 v.kind, .int .i64 v.storeys, .int .i64 v.each, .slice r.a r.n r.cap], .agg #[.int .i64 v.kind, .int .i64 v.storeys, .int .i64 v.each, .slice r2.a r2.n r2.cap]] w fun e w' => e = .returned (.bool true) ∧ Below w.heap.size w w' := by
  have hnn : r2.n = r.n := by rw [← h.1, ← h2.1, hx]
  rw [hnn] at h2 ⊢
  rw [← hx] at h2
  clear hx hnn
  go_enter Tryd.func89, Tryd.ntmps89
  go_wp2_with fail
  have hbZ : Below w.heap.size w ((w.alloc (Obj.cells #[.int .i64 v.kind, .int .i64 v.storeys, .int .i64 v.each, .slice r.a r.n r.cap] 127)).alloc (Obj.cells #[.int .i64 v.kind, .int .i64 v.storeys, .int .i64 v.each, .slice r2.a r.n r2.cap] 127)) := by repeat (first | exact Below.refl _ _ | (refine Below.setCell ?_ (by first | (simp; done) | (simp; omega)) _) | (refine Below.alloc ?_ (by first | (simp; done) | (simp; omega)) _) | refine Below.drew ?_)
  refine (eqPntS_same _ _ _ _ _ r.xs _ lo lo2 ((h.below hbZ).more hbZ.size) ((h2.below hbZ).more hbZ.size) hn).mono ?_
  rintro _ x0 ⟨rfl, hb0⟩
  go_wp2
  go_ret
  exact ⟨rfl, hbZ.trans (hb0.mono hbZ.size)⟩

set_option maxRecDepth 100000 in
set_option maxHeartbeats 3200000 in
theorem eqZoneS_same (A A2 : Option Addr) (n c c2 : Nat) (ps ps2 : List Zone) (w : World) (lo lo2 : Nat) (hv : ps.map Zone.val = ps2.map Zone.val) (h : Zones w lo w.heap.size A n ps) (h2 : Zones w lo2 w.heap.size A2 n ps2) (hn : n ≤ 9223372036854775807) (hp : ∀ p ∈ ps, p.r.n ≤ 9223372036854775807) :
    Calls Tryd.prog 23 #[.slice A n c, .slice A2 n c2] w fun e w' => e = .returned (.bool true) ∧ Below w.heap.size w w' := by
  have HV := Lib.hid hv
  clear hv
  go_enter Tryd.func23, Tryd.ntmps23
  go_wp2
  go_loopw [5] (fun i wr => ∃ k : Nat, k ≤ n ∧ i = .int .i64 k ∧ Below w.heap.size w wr) (fun i _ => n - (intOf i).toNat)
  case atStart => exact ⟨0, Nat.zero_le _, rfl, Below.refl _ _⟩
  case round =>
    obtain ⟨k, hk, rfl, hb⟩ := hrel
    by_cases hlt : k < n
    · obtain ⟨b, off, p, rfl, hx, _, hbl, hr, c0, c1, c2, c3⟩ := Zone.at (h.below hb) hlt
      obtain ⟨b2, off2, p2, rfl, hx2, _, hbl2, hr2, d0, d1, d2, d3⟩ := Zone.at (h2.below hb) hlt
      have hrn := hp p (List.mem_of_getElem? hx)
      have hvv := val_same HV.out hx hx2
      obtain ⟨v, r⟩ := p
      obtain ⟨v2, r2⟩ := p2
      obtain ⟨e1, e2⟩ : v = v2 ∧ r.xs = r2.xs := by simpa [Zone.val] using hvv
      subst e1
      dsimp only at hr hr2 hrn c0 c1 c2 c3 d0 d1 d2 d3
      have hlt0 : (0 : Int) ≤ (k : Int) := by omega
      have hlt1 : (k : Int) < (n : Int) := by omega
      have hx1 := hbl; have hx3 := hbl2; have hx4 := hb.size
      have E2 := Lib.hid e2
      clear h h2 hx hx2 hvv e2 hp
      go_wp2_with fail
      go_region_held3 (fun w' => w'.cell? ⟨b, off + k * 4, none⟩ = some (.int .i64 v.kind) ∧ w'.cell? ⟨b, off + k * 4 + 1, none⟩ = some (.int .i64 v.storeys) ∧ w'.cell? ⟨b, off + k * 4 + 2, none⟩ = some (.int .i64 v.each) ∧ w'.cell? ⟨b, off + k * 4 + 3, none⟩ = some (.slice r.a r.n r.cap) ∧ w'.cell? ⟨b2, off2 + k * 4, none⟩ = some (.int .i64 v.kind) ∧ w'.cell? ⟨b2, off2 + k * 4 + 1, none⟩ = some (.int .i64 v.storeys) ∧ w'.cell? ⟨b2, off2 + k * 4 + 2, none⟩ = some (.int .i64 v.each) ∧ w'.cell? ⟨b2, off2 + k * 4 + 3, none⟩ = some (.slice r2.a r2.n r2.cap)) (first | go_keep | exact ⟨(hb1.cell (by simp; omega)).trans c0, (hb1.cell (by simp; omega)).trans c1, (hb1.cell (by simp; omega)).trans c2, (hb1.cell (by simp; omega)).trans c3, (hb1.cell (by simp; omega)).trans d0, (hb1.cell (by simp; omega)).trans d1, (hb1.cell (by simp; omega)).trans d2, (hb1.cell (by simp; omega)).trans d3⟩) (first | (go_at_call 89; refine (eqZone_same v r r2 _ lo lo2 E2.out ((hr.below ((Below.refl _ _).drew)).more hx4) ((hr2.below ((Below.refl _ _).drew)).more hx4) hrn).mono ?_; rintro e w1 ⟨rfl, hb1⟩))
      go_wp2
      go_roundw
      case rel => exact ⟨k + 1, by omega, by go_num, hb.trans ((Below.drew (Below.refl _ _)).trans (hb1.mono hb.size))⟩
      case measure => simp [intOf]; omega
    · obtain rfl : k = n := by omega
      go_wp2
      go_ret
      exact ⟨rfl, hb⟩
end Go.Proofs.YtdhobglhjdgboaaDoor
