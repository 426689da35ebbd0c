/- Crane: the record (points in it, a slice at its end), and the contracts of the laws' own functions over it: size, copy, equality. -/
import Derived.Test.YtencnldflnbdiaaProg
import Derived.Test.YtencnldflnbdiaaNest2
import Derived.Test.YtencnldflnbdiaaPoint
import Derived.Test.YtencnldflnbdiaaPut
import Derived.Test.YtencnldflnbdiaaRChartStep
import Derived.Deep.RegionHeld3
import Derived.Deep.QuietTactic
import Derived.BigQuiet
import Derived.KernelRfl
namespace Go.Proofs.Ytencnldflnbdiaa
open Go.RowKit
set_option linter.unusedVariables false

structure CraneV where
  name : ByteArray
  ax : Int
  ay : Int
  height : Int
  jib : Int
  back : Int
/-- the record and where its slice lies -/
structure Crane where
  v : CraneV
  r : Row ChartStep
def Crane.val (p : Crane) : CraneV × List ChartStep := (p.v, p.r.xs)
def Crane.cs (p : Crane) : List Value := [.string p.v.name, .int .i64 p.v.ax, .int .i64 p.v.ay, .int .i64 p.v.height, .int .i64 p.v.jib, .int .i64 p.v.back, .slice p.r.a p.r.n p.r.cap]
theorem Crane.cs_len (p : Crane) : p.cs.length = 7 := rfl
theorem Crane.cs_one (p : Crane) : ∀ u ∈ p.cs, u.oneCell' = true := by intro u hu; simp [Crane.cs] at hu; rcases hu with rfl | rfl | rfl | rfl | rfl | rfl | rfl <;> rfl
structure CraneV.wf (p : CraneV) : Prop where
  name : p.name.size ≤ 9223372036854775807
  ax : -9223372036854775808 ≤ p.ax ∧ p.ax ≤ 9223372036854775807
  ay : -9223372036854775808 ≤ p.ay ∧ p.ay ≤ 9223372036854775807
  height : -9223372036854775808 ≤ p.height ∧ p.height ≤ 9223372036854775807
  jib : -9223372036854775808 ≤ p.jib ∧ p.jib ≤ 9223372036854775807
  back : -9223372036854775808 ≤ p.back ∧ p.back ≤ 9223372036854775807
structure Crane.wf (p : Crane) : Prop where
  v : p.v.wf
  n : p.r.n ≤ 9223372036854775807
  xs : ∀ x ∈ p.r.xs, ChartStep.wf x
abbrev Cranes (w : World) (lo hi : Nat) (A : Option Addr) (n : Nat) (ps : List Crane) : Prop := NArr Crane.cs 7 ChartStep.cs 2 Crane.r w lo hi A n ps
abbrev CranesOwn (w : World) (lo hi : Nat) (A : Option Addr) (n : Nat) (ps : List Crane) : Prop := NOwn Crane.cs 7 78 ChartStep.cs 2 151 Crane.r w lo hi A n ps
theorem Crane.at {w : World} {lo hi : Nat} {A : Option Addr} {n : Nat} {xs : List Crane} (h : Cranes w lo hi A n xs) {i : Nat} (hi' : i < n) :
    ∃ b off p, A = some ⟨b, off, none⟩ ∧ xs[i]? = some p ∧ lo ≤ b ∧ b < hi ∧ Arr ChartStep.cs 2 w lo hi p.r.a p.r.n p.r.xs ∧ w.cell? ⟨b, off + i * 7, none⟩ = some (.string p.v.name) ∧ w.cell? ⟨b, off + i * 7 + 1, none⟩ = some (.int .i64 p.v.ax) ∧ w.cell? ⟨b, off + i * 7 + 2, none⟩ = some (.int .i64 p.v.ay) ∧ w.cell? ⟨b, off + i * 7 + 3, none⟩ = some (.int .i64 p.v.height) ∧ w.cell? ⟨b, off + i * 7 + 4, none⟩ = some (.int .i64 p.v.jib) ∧ w.cell? ⟨b, off + i * 7 + 5, none⟩ = some (.int .i64 p.v.back) ∧ w.cell? ⟨b, off + i * 7 + 6, none⟩ = some (.slice p.r.a p.r.n p.r.cap) := by
  obtain ⟨b, off, p, h1, h2, h3, h4, hc⟩ := h.1.cells hi'
  exact ⟨b, off, p, h1, h2, h3, h4, h.2 p (List.mem_of_getElem? h2), hc 0 _ rfl, hc 1 _ rfl, hc 2 _ rfl, hc 3 _ rfl, hc 4 _ rfl, hc 5 _ rfl, hc 6 _ rfl⟩
theorem Crane.blk {w : World} {g : Nat} {t : TypeId} {v0 v1 v2 v3 v4 v5 v6 : Value} (h : Blk w g t #[v0, v1, v2, v3, v4, v5, v6]) : w.cell? ⟨g, 0, none⟩ = some v0 ∧ w.cell? ⟨g, 1, none⟩ = some v1 ∧ w.cell? ⟨g, 2, none⟩ = some v2 ∧ w.cell? ⟨g, 3, none⟩ = some v3 ∧ w.cell? ⟨g, 4, none⟩ = some v4 ∧ w.cell? ⟨g, 5, none⟩ = some v5 ∧ w.cell? ⟨g, 6, none⟩ = some v6 := ⟨(h.cell 0).trans rfl, (h.cell 1).trans rfl, (h.cell 2).trans rfl, (h.cell 3).trans rfl, (h.cell 4).trans rfl, (h.cell 5).trans rfl, (h.cell 6).trans rfl⟩
theorem Crane.fro {w : World} {g : Nat} {t : TypeId} {cs : Array Value} (h : Blk w g t cs) : w.frozen? ⟨g, 0, none⟩ = false ∧ w.frozen? ⟨g, 1, none⟩ = false ∧ w.frozen? ⟨g, 2, none⟩ = false ∧ w.frozen? ⟨g, 3, none⟩ = false ∧ w.frozen? ⟨g, 4, none⟩ = false ∧ w.frozen? ⟨g, 5, none⟩ = false ∧ w.frozen? ⟨g, 6, none⟩ = false := ⟨h.frozen 0, h.frozen 1, h.frozen 2, h.frozen 3, h.frozen 4, h.frozen 5, h.frozen 6⟩
def Crane.sz (p : Crane) : Nat := p.v.name.size + p.r.n
set_option maxRecDepth 100000 in
set_option maxHeartbeats 400000 in
theorem szCrane_ok (p : Crane) (left : Int) (w : World) (hX : Arr ChartStep.cs 2 w 0 w.heap.size p.r.a p.r.n p.r.xs) (hp : p.wf) (h0 : 0 ≤ left) (h1 : left ≤ 1048576) (h : (p.sz : Int) ≤ left) :
    Calls Try.prog 71 #[.agg #[.string p.v.name, .int .i64 p.v.ax, .int .i64 p.v.ay, .int .i64 p.v.height, .int .i64 p.v.jib, .int .i64 p.v.back, .slice p.r.a p.r.n p.r.cap], .int .i64 left] w fun e w' => e = .returned (.int .i64 (left - (p.sz : Int))) ∧ Below w.heap.size w w' := by
  have hn := hp.v.name
  have hr := hp.n
  have hxs := hp.xs
  have hz : szChartStepS p.r.n p.r.xs = (p.r.n : Int) := rfl
  unfold Crane.sz at *
  go_enter Try.func71, Try.ntmps71
  go_wp2_with (go_at_call 102; refine (szChartStepS_ok _ _ _ p.r.xs _ _ 0 (hX.below ((Below.refl _ _).alloc (Nat.le_refl _) _) |>.more (by simp)) hr hxs (by omega) (by omega) (by unfold szChartStepS; omega)).mono ?_; rintro e w1 ⟨rfl, hb1⟩)
  go_ret
  exact ⟨ret_int (by omega), ((Below.refl _ _).alloc (Nat.le_refl _) _).trans (hb1.mono (by simp))⟩
set_option maxRecDepth 100000 in
set_option maxHeartbeats 400000 in
theorem szCrane_no (p : Crane) (left : Int) (w : World) (hX : Arr ChartStep.cs 2 w 0 w.heap.size p.r.a p.r.n p.r.xs) (hp : p.wf) (h0 : 0 ≤ left) (h1 : left ≤ 1048576) (h : left < (p.sz : Int)) :
    Calls Try.prog 71 #[.agg #[.string p.v.name, .int .i64 p.v.ax, .int .i64 p.v.ay, .int .i64 p.v.height, .int .i64 p.v.jib, .int .i64 p.v.back, .slice p.r.a p.r.n p.r.cap], .int .i64 left] w fun e w' => e = .returned (.int .i64 (-1)) ∧ Below w.heap.size w w' := by
  have hn := hp.v.name
  have hr := hp.n
  have hxs := hp.xs
  have hz : szChartStepS p.r.n p.r.xs = (p.r.n : Int) := rfl
  unfold Crane.sz at *
  by_cases hle : (p.v.name.size : Int) ≤ left
  · go_enter Try.func71, Try.ntmps71
    go_wp2_with (go_at_call 102; refine (szChartStepS_no _ _ _ p.r.xs _ _ 0 (hX.below ((Below.refl _ _).alloc (Nat.le_refl _) _) |>.more (by simp)) hr hxs (by omega) (by omega) (by unfold szChartStepS; omega)).mono ?_; rintro e w1 ⟨rfl, hb1⟩)
    go_ret
    exact ⟨rfl, ((Below.refl _ _).alloc (Nat.le_refl _) _).trans (hb1.mono (by simp))⟩
  · go_enter Try.func71, Try.ntmps71
    go_wp2
    go_ret
    exact ⟨rfl, (Below.refl _ _).alloc (Nat.le_refl _) _⟩
def szCraneS (n : Nat) (ps : List Crane) : Int := (n : Int) + (tot Crane.sz ps : Nat)
set_option maxRecDepth 100000 in
set_option maxHeartbeats 800000 in
theorem szCraneS_ok (A : Option Addr) (n c : Nat) (ps : List Crane) (left : Int) (w : World) (lo : Nat) (h : Cranes w lo w.heap.size A n ps) (hn : n ≤ 9223372036854775807) (hp : ∀ p ∈ ps, p.wf) (h0 : 0 ≤ left) (h1 : left ≤ 1048576) (hs : szCraneS n ps ≤ left) :
    Calls Try.prog 33 #[.slice A n c, .int .i64 left] w fun e w' => e = .returned (.int .i64 (left - szCraneS n ps)) ∧ Below w.heap.size w w' := by
  have HS := Lib.hid hs
  clear hs
  by_cases hl : (n : Int) ≤ left
  · go_enter Try.func33, Try.ntmps33
    go_wp2
    go_loopw [1, 5] (fun l i wr => ∃ k : Nat, k ≤ n ∧ i = .int .i64 k ∧ l = .int .i64 (left - n - (tot Crane.sz (ps.take k) : Nat)) ∧ 0 ≤ left - n - (tot Crane.sz (ps.take k) : Nat) ∧ Below w.heap.size w wr) (fun _ i _ => n - (intOf i).toNat)
    case atStart => exact ⟨0, Nat.zero_le _, rfl, by simp [tot], by simp [tot]; omega, Below.refl _ _⟩
    case round =>
      obtain ⟨k, hk, rfl, rfl, hr, hb⟩ := hrel
      by_cases hlt : k < n
      · obtain ⟨b, off, p, rfl, hx, _, hbl, hRow, c0, c1, c2, c3, c4, c5, c6⟩ := Crane.at (h.below hb) hlt
        have hpw := hp p (List.mem_of_getElem? hx)
        have HT := Lib.hid (tot_snoc Crane.sz ps k p hx)
        have HL := Lib.hid (tot_le Crane.sz ps (k + 1))
        generalize tot Crane.sz (ps.take k) = T at *
        by_cases hle : (p.sz : Int) ≤ left - n - T
        · go_wp2_with (go_at_call 71; refine (szCrane_ok p _ _ (hRow.less (Nat.zero_le _) |>.more hb.size) hpw (by omega) (by omega) (by omega)).mono ?_; rintro e w1 ⟨rfl, hb1⟩)
          go_roundw
          case rel => exact ⟨k + 1, by omega, by go_num, by rw [HT.out]; go_num, by rw [HT.out]; omega, hb.trans (hb1.mono hb.size)⟩
          case measure => simp [intOf]; omega
        · go_wp2_with (go_at_call 71; refine (szCrane_no p _ _ (hRow.less (Nat.zero_le _) |>.more hb.size) hpw (by omega) (by omega) (by omega)).mono ?_; rintro e w1 ⟨rfl, hb1⟩)
          go_ret
          exact absurd HS.out (by have h1 := HT.out; have h2 := HL.out; rw [h1] at h2; unfold szCraneS; omega)
      · obtain rfl : k = n := by omega
        go_wp2
        go_ret
        exact ⟨ret_int (by unfold szCraneS; rw [List.take_of_length_le (by rw [h.len]; exact Nat.le_refl _)]; omega), hb⟩
  · exact absurd HS.out (by unfold szCraneS; omega)
set_option maxRecDepth 100000 in
set_option maxHeartbeats 800000 in
theorem szCraneS_no (A : Option Addr) (n c : Nat) (ps : List Crane) (left : Int) (w : World) (lo : Nat) (h : Cranes w lo w.heap.size A n ps) (hn : n ≤ 9223372036854775807) (hp : ∀ p ∈ ps, p.wf) (h0 : 0 ≤ left) (h1 : left ≤ 1048576) (hs : left < szCraneS n ps) :
    Calls Try.prog 33 #[.slice A n c, .int .i64 left] w fun e w' => e = .returned (.int .i64 (-1)) ∧ Below w.heap.size w w' := by
  have HS := Lib.hid hs
  clear hs
  by_cases hl : (n : Int) ≤ left
  · go_enter Try.func33, Try.ntmps33
    go_wp2
    go_loopw [1, 5] (fun l i wr => ∃ k : Nat, k ≤ n ∧ i = .int .i64 k ∧ l = .int .i64 (left - n - (tot Crane.sz (ps.take k) : Nat)) ∧ 0 ≤ left - n - (tot Crane.sz (ps.take k) : Nat) ∧ Below w.heap.size w wr) (fun _ i _ => n - (intOf i).toNat)
    case atStart => exact ⟨0, Nat.zero_le _, rfl, by simp [tot], by simp [tot]; omega, Below.refl _ _⟩
    case round =>
      obtain ⟨k, hk, rfl, rfl, hr, hb⟩ := hrel
      by_cases hlt : k < n
      · obtain ⟨b, off, p, rfl, hx, _, hbl, hRow, c0, c1, c2, c3, c4, c5, c6⟩ := Crane.at (h.below hb) hlt
        have hpw := hp p (List.mem_of_getElem? hx)
        have HT := Lib.hid (tot_snoc Crane.sz ps k p hx)
        have HL := Lib.hid (tot_le Crane.sz ps (k + 1))
        generalize tot Crane.sz (ps.take k) = T at *
        by_cases hle : (p.sz : Int) ≤ left - n - T
        · go_wp2_with (go_at_call 71; refine (szCrane_ok p _ _ (hRow.less (Nat.zero_le _) |>.more hb.size) hpw (by omega) (by omega) (by omega)).mono ?_; rintro e w1 ⟨rfl, hb1⟩)
          go_roundw
          case rel => exact ⟨k + 1, by omega, by go_num, by rw [HT.out]; go_num, by rw [HT.out]; omega, hb.trans (hb1.mono hb.size)⟩
          case measure => simp [intOf]; omega
        · go_wp2_with (go_at_call 71; refine (szCrane_no p _ _ (hRow.less (Nat.zero_le _) |>.more hb.size) hpw (by omega) (by omega) (by omega)).mono ?_; rintro e w1 ⟨rfl, hb1⟩)
          go_ret
          exact ⟨rfl, hb.trans (hb1.mono hb.size)⟩
      · obtain rfl : k = n := by omega
        go_wp2
        go_ret
        exact absurd HS.out (by rw [List.take_of_length_le (by rw [h.len]; exact Nat.le_refl _)] at hr; unfold szCraneS; omega)
  · go_enter Try.func33, Try.ntmps33
    go_wp2
    go_ret
    exact ⟨rfl, Below.refl _ _⟩

/-- a call that hands back a copy with a row of its own -/
def ToCrane (w : World) (p : Crane) (e : Ending) (w' : World) : Prop :=
  ∃ g, e = .returned (.agg #[.string p.v.name, .int .i64 p.v.ax, .int .i64 p.v.ay, .int .i64 p.v.height, .int .i64 p.v.jib, .int .i64 p.v.back, .slice (some ⟨g, 0, none⟩) p.r.n p.r.n]) ∧ Own ChartStep.cs 2 w' w.heap.size w'.heap.size 151 (some ⟨g, 0, none⟩) p.r.n p.r.xs ∧ Below w.heap.size w w'
set_option maxRecDepth 100000 in
set_option maxHeartbeats 3200000 in
theorem toCrane_any (p : Crane) (w : World) (lo : Nat) (hr : Arr ChartStep.cs 2 w lo w.heap.size p.r.a p.r.n p.r.xs) (hn : p.r.n ≤ 1048576) :
    Calls Try.prog 74 #[.agg #[.string p.v.name, .int .i64 p.v.ax, .int .i64 p.v.ay, .int .i64 p.v.height, .int .i64 p.v.jib, .int .i64 p.v.back, .slice p.r.a p.r.n p.r.cap]] w (ToCrane w p) := by
  go_enter Try.func74, Try.ntmps74
  go_wp2_with fail
  have A0 := (Below.refl w.heap.size w).alloc (Nat.le_refl _) (Obj.cells #[.string p.v.name, .int .i64 p.v.ax, .int .i64 p.v.ay, .int .i64 p.v.height, .int .i64 p.v.jib, .int .i64 p.v.back, .slice p.r.a p.r.n p.r.cap] 118)
  have A1 := A0.alloc (by simp) (Obj.cells #[.string ⟨#[]⟩, .int .i64 0, .int .i64 0, .int .i64 0, .int .i64 0, .int .i64 0, .slice none 0 0] 78)
  have hbX := A1.alloc (by simp; omega) (Obj.cells #[.string p.v.name, .int .i64 0, .int .i64 0, .int .i64 0, .int .i64 0, .int .i64 0, .slice none 0 0] 78)
  have P9 := ((Blk.new w 118 #[.string p.v.name, .int .i64 p.v.ax, .int .i64 p.v.ay, .int .i64 p.v.height, .int .i64 p.v.jib, .int .i64 p.v.back, .slice p.r.a p.r.n p.r.cap]).alloc (Obj.cells #[.string ⟨#[]⟩, .int .i64 0, .int .i64 0, .int .i64 0, .int .i64 0, .int .i64 0, .slice none 0 0] 78)).alloc (Obj.cells #[.string p.v.name, .int .i64 0, .int .i64 0, .int .i64 0, .int .i64 0, .int .i64 0, .slice none 0 0] 78)
  have R9 := (Blk.new_at (w := w.alloc (Obj.cells #[.string p.v.name, .int .i64 p.v.ax, .int .i64 p.v.ay, .int .i64 p.v.height, .int .i64 p.v.jib, .int .i64 p.v.back, .slice p.r.a p.r.n p.r.cap] 118)) (cs := #[.string ⟨#[]⟩, .int .i64 0, .int .i64 0, .int .i64 0, .int .i64 0, .int .i64 0, .slice none 0 0]) (t := 78) rfl (by simp) : Blk _ (w.heap.size + 1) _ _).alloc (Obj.cells #[.string p.v.name, .int .i64 0, .int .i64 0, .int .i64 0, .int .i64 0, .int .i64 0, .slice none 0 0] 78)
  have O9 := (Blk.new_at (w := (w.alloc (Obj.cells #[.string p.v.name, .int .i64 p.v.ax, .int .i64 p.v.ay, .int .i64 p.v.height, .int .i64 p.v.jib, .int .i64 p.v.back, .slice p.r.a p.r.n p.r.cap] 118)).alloc (Obj.cells #[.string ⟨#[]⟩, .int .i64 0, .int .i64 0, .int .i64 0, .int .i64 0, .int .i64 0, .slice none 0 0] 78)) (cs := #[.string p.v.name, .int .i64 0, .int .i64 0, .int .i64 0, .int .i64 0, .int .i64 0, .slice none 0 0]) (t := 78) rfl (by simp) : Blk _ (w.heap.size + 1 + 1) _ _)
  clear A0 A1
  refine (toPoint_any _ _ _).mono ?_
  rintro _ x0 ⟨rfl, hb0⟩
  have hbZ := hbX.trans (hb0.mono hbX.size)
  have P0 := P9.bel hb0
  have R0 := R9.bel hb0
  have O0 : Blk x0 (w.heap.size + 1 + 1) 78 #[.string p.v.name, .int .i64 0, .int .i64 0, .int .i64 0, .int .i64 0, .int .i64 0, .slice none 0 0] := O9.bel hb0
  clear hbX P9 R9 O9 hb0
  have hs0 : w.heap.size + 1 + 1 < x0.heap.size := O0.lt
  obtain ⟨a0, a1, a2, a3, a4, a5, a6⟩ := Crane.blk P0
  obtain ⟨b0, b1, b2, b3, b4, b5, b6⟩ := Crane.blk R0
  obtain ⟨d0, d1, d2, d3, d4, d5, d6⟩ := Crane.blk O0
  obtain ⟨f0, f1, f2, f3, f4, f5, f6⟩ := Crane.fro R0
  obtain ⟨g0, g1, g2, g3, g4, g5, g6⟩ := Crane.fro O0
  go_wp2_with fail
  have hbX := (((((hbZ.setCell (p := ⟨w.heap.size + 1 + 1, 1, none⟩) (by dsimp only; omega) (.int .i64 p.v.ax)).setCell (p := ⟨w.heap.size + 1 + 1, 2, none⟩) (by dsimp only; omega) (.int .i64 p.v.ay)).setCell (p := ⟨w.heap.size + 1 + 1, 3, none⟩) (by dsimp only; omega) (.int .i64 p.v.height)).setCell (p := ⟨w.heap.size + 1 + 1, 4, none⟩) (by dsimp only; omega) (.int .i64 p.v.jib)).setCell (p := ⟨w.heap.size + 1 + 1, 5, none⟩) (by dsimp only; omega) (.int .i64 p.v.back))
  have P9 := (((((P0.far (p := ⟨w.heap.size + 1 + 1, 1, none⟩) (by dsimp only; omega) (.int .i64 p.v.ax)).far (p := ⟨w.heap.size + 1 + 1, 2, none⟩) (by dsimp only; omega) (.int .i64 p.v.ay)).far (p := ⟨w.heap.size + 1 + 1, 3, none⟩) (by dsimp only; omega) (.int .i64 p.v.height)).far (p := ⟨w.heap.size + 1 + 1, 4, none⟩) (by dsimp only; omega) (.int .i64 p.v.jib)).far (p := ⟨w.heap.size + 1 + 1, 5, none⟩) (by dsimp only; omega) (.int .i64 p.v.back))
  have R9 := (((((R0.far (p := ⟨w.heap.size + 1 + 1, 1, none⟩) (by dsimp only; omega) (.int .i64 p.v.ax)).far (p := ⟨w.heap.size + 1 + 1, 2, none⟩) (by dsimp only; omega) (.int .i64 p.v.ay)).far (p := ⟨w.heap.size + 1 + 1, 3, none⟩) (by dsimp only; omega) (.int .i64 p.v.height)).far (p := ⟨w.heap.size + 1 + 1, 4, none⟩) (by dsimp only; omega) (.int .i64 p.v.jib)).far (p := ⟨w.heap.size + 1 + 1, 5, none⟩) (by dsimp only; omega) (.int .i64 p.v.back))
  have O9 := (((((O0.set_ 1 (.int .i64 p.v.ax)).set_ 2 (.int .i64 p.v.ay)).set_ 3 (.int .i64 p.v.height)).set_ 4 (.int .i64 p.v.jib)).set_ 5 (.int .i64 p.v.back))
  clear hbZ P0 R0 O0
  refine (toChartStepS_any _ _ _ p.r.xs _ lo ((hr.below hbX).more hbX.size) hn).mono ?_
  rintro _ x1 ⟨g, rfl, ho, hb1⟩
  have hbZ := hbX.trans (hb1.mono hbX.size)
  have P1 := P9.bel hb1
  have R1 := R9.bel hb1
  have O1 : Blk x1 (w.heap.size + 1 + 1) 78 #[.string p.v.name, .int .i64 p.v.ax, .int .i64 p.v.ay, .int .i64 p.v.height, .int .i64 p.v.jib, .int .i64 p.v.back, .slice none 0 0] := O9.bel hb1
  have hsX : w.heap.size + 1 + 1 < _ := O9.lt
  clear hbX P9 R9 O9 hb1
  clear a0 a1 a2 a3 a4 a5 a6 b0 b1 b2 b3 b4 b5 b6 d0 d1 d2 d3 d4 d5 d6 f0 g0 f1 g1 f2 g2 f3 g3 f4 g4 f5 g5 f6 g6 hs0
  have hs1 : w.heap.size + 1 + 1 < x1.heap.size := O1.lt
  obtain ⟨a0, a1, a2, a3, a4, a5, a6⟩ := Crane.blk P1
  obtain ⟨b0, b1, b2, b3, b4, b5, b6⟩ := Crane.blk R1
  obtain ⟨d0, d1, d2, d3, d4, d5, d6⟩ := Crane.blk O1
  obtain ⟨f0, f1, f2, f3, f4, f5, f6⟩ := Crane.fro R1
  obtain ⟨g0, g1, g2, g3, g4, g5, g6⟩ := Crane.fro O1
  go_wp2
  have hfin := (((((((((Within.refl w.heap.size (w.heap.size + 3) x1).setCell (p := ⟨w.heap.size + 1 + 1, 6, none⟩) (by dsimp only; omega) (by dsimp only; omega) (.slice (some ⟨g, 0, none⟩) p.r.n p.r.n)).setCell (p := ⟨w.heap.size + 1, 0, none⟩) (by dsimp only; omega) (by dsimp only; omega) (.string p.v.name)).setCell (p := ⟨w.heap.size + 1, 1, none⟩) (by dsimp only; omega) (by dsimp only; omega) (.int .i64 p.v.ax)).setCell (p := ⟨w.heap.size + 1, 2, none⟩) (by dsimp only; omega) (by dsimp only; omega) (.int .i64 p.v.ay)).setCell (p := ⟨w.heap.size + 1, 3, none⟩) (by dsimp only; omega) (by dsimp only; omega) (.int .i64 p.v.height)).setCell (p := ⟨w.heap.size + 1, 4, none⟩) (by dsimp only; omega) (by dsimp only; omega) (.int .i64 p.v.jib)).setCell (p := ⟨w.heap.size + 1, 5, none⟩) (by dsimp only; omega) (by dsimp only; omega) (.int .i64 p.v.back)).setCell (p := ⟨w.heap.size + 1, 6, none⟩) (by dsimp only; omega) (by dsimp only; omega) (.slice (some ⟨g, 0, none⟩) p.r.n p.r.n))
  have hbf := ((((((((hbZ.setCell (p := ⟨w.heap.size + 1 + 1, 6, none⟩) (by dsimp only; omega) (.slice (some ⟨g, 0, none⟩) p.r.n p.r.n)).setCell (p := ⟨w.heap.size + 1, 0, none⟩) (by dsimp only; omega) (.string p.v.name)).setCell (p := ⟨w.heap.size + 1, 1, none⟩) (by dsimp only; omega) (.int .i64 p.v.ax)).setCell (p := ⟨w.heap.size + 1, 2, none⟩) (by dsimp only; omega) (.int .i64 p.v.ay)).setCell (p := ⟨w.heap.size + 1, 3, none⟩) (by dsimp only; omega) (.int .i64 p.v.height)).setCell (p := ⟨w.heap.size + 1, 4, none⟩) (by dsimp only; omega) (.int .i64 p.v.jib)).setCell (p := ⟨w.heap.size + 1, 5, none⟩) (by dsimp only; omega) (.int .i64 p.v.back)).setCell (p := ⟨w.heap.size + 1, 6, none⟩) (by dsimp only; omega) (.slice (some ⟨g, 0, none⟩) p.r.n p.r.n))
  have RF : Blk _ (w.heap.size + 1) 78 #[.string p.v.name, .int .i64 p.v.ax, .int .i64 p.v.ay, .int .i64 p.v.height, .int .i64 p.v.jib, .int .i64 p.v.back, .slice (some ⟨g, 0, none⟩) p.r.n p.r.n] := (((((((((R1.far (p := ⟨w.heap.size + 1 + 1, 6, none⟩) (by dsimp only; omega) (.slice (some ⟨g, 0, none⟩) p.r.n p.r.n))).set_ 0 (.string p.v.name)).set_ 1 (.int .i64 p.v.ax)).set_ 2 (.int .i64 p.v.ay)).set_ 3 (.int .i64 p.v.height)).set_ 4 (.int .i64 p.v.jib)).set_ 5 (.int .i64 p.v.back)).set_ 6 (.slice (some ⟨g, 0, none⟩) p.r.n p.r.n))
  clear a0 a1 a2 a3 a4 a5 a6 b0 b1 b2 b3 b4 b5 b6 d0 d1 d2 d3 d4 d5 d6 f0 g0 f1 g1 f2 g2 f3 g3 f4 g4 f5 g5 f6 g6 R1 O1 P1
  revert hfin hbf RF
  generalize ((((((((x1.setCell ⟨w.heap.size + 1 + 1, 6, none⟩ (.slice (some ⟨g, 0, none⟩) p.r.n p.r.n)).setCell ⟨w.heap.size + 1, 0, none⟩ (.string p.v.name)).setCell ⟨w.heap.size + 1, 1, none⟩ (.int .i64 p.v.ax)).setCell ⟨w.heap.size + 1, 2, none⟩ (.int .i64 p.v.ay)).setCell ⟨w.heap.size + 1, 3, none⟩ (.int .i64 p.v.height)).setCell ⟨w.heap.size + 1, 4, none⟩ (.int .i64 p.v.jib)).setCell ⟨w.heap.size + 1, 5, none⟩ (.int .i64 p.v.back)).setCell ⟨w.heap.size + 1, 6, none⟩ (.slice (some ⟨g, 0, none⟩) p.r.n p.r.n)) = Wf
  intro hfin hbf RF
  obtain ⟨a0, a1, a2, a3, a4, a5, a6⟩ := Crane.blk RF
  refine bodyPost_ret (v := .agg #[.string p.v.name, .int .i64 p.v.ax, .int .i64 p.v.ay, .int .i64 p.v.height, .int .i64 p.v.jib, .int .i64 p.v.back, .slice (some ⟨g, 0, none⟩) p.r.n p.r.n]) (by simp [results, Try.results74, go_sem, a0, a1, a2, a3, a4, a5, a6]) rfl ⟨g, rfl, ?_, hbf⟩
  exact ((ho.within hfin (.inr (by omega))).wide (by omega) hfin.size)

theorem CraneInfo : (Try.prog.info? 78).map (fun i => (i.zero, i.size, i.bytes)) = some (some (.agg #[.string ⟨#[]⟩, .int .i64 0, .int .i64 0, .int .i64 0, .int .i64 0, .int .i64 0, .slice none 0 0]), 7, 80) := by kernel_rfl
def ToCraneS (w : World) (n : Nat) (ps : List Crane) (e : Ending) (w' : World) : Prop :=
  ∃ g ps', e = .returned (.slice (some ⟨g, 0, none⟩) n n) ∧ ps'.map Crane.val = ps.map Crane.val ∧ CranesOwn w' w.heap.size w'.heap.size (some ⟨g, 0, none⟩) n ps' ∧ Below w.heap.size w w'
set_option maxHeartbeats 3200000 in
theorem toCraneS_any (A : Option Addr) (n c : Nat) (ps : List Crane) (w : World) (lo : Nat) (h : Cranes w lo w.heap.size A n ps) (hn : n ≤ 1048576) (hp : ∀ p ∈ ps, p.r.n ≤ 1048576) :
    Calls Try.prog 36 #[.slice A n c] w (ToCraneS w n ps) := by
  obtain ⟨i0, hi, hz0, hz1, hz2⟩ := info_parts CraneInfo
  have hmk := fun W => run_make_rowN (P := Try.prog) 29 78 i0 _ Try.underlying29 hi hz0 .i64 .i64 n n (Nat.le_refl _) (by rw [hz2]; omega) (by omega) W
  rw [hz1] at hmk
  go_enter Try.func36, Try.ntmps36
  go_wp2
  clear hmk
  go_loopw [4] (fun i wr => ∃ (k : Nat) (cs : Array Value) (out : List Crane), k ≤ n ∧ i = .int .i64 k ∧ Blk wr w.heap.size 78 cs ∧ cs.size = n * 7 ∧ Laid Crane.val Crane.cs 7 ChartStep.cs 2 151 Crane.r wr (w.heap.size + 1) cs ps k out ∧ w.heap.size + 1 ≤ wr.heap.size ∧ Below w.heap.size w wr) (fun i _ => n - (intOf i).toNat)
  case atStart => exact ⟨0, _, [], Nat.zero_le _, rfl, Blk.new _ _ _, by simp [size_madeCells], Laid.start _ _ _ _ (by simp), by simp, (Below.refl _ _).alloc (Nat.le_refl _) _⟩
  case round =>
    obtain ⟨k, cs, out, hk, rfl, hblk, hsz, hlaid, hws, hb⟩ := hrel
    have HZ := Lib.hid hsz
    clear hsz
    by_cases hlt : k < n
    · obtain ⟨b, off, p, rfl, hx, _, hbl, hrow, c0, c1, c2, c3, c4, c5, c6⟩ := Crane.at (h.below hb) hlt
      have hrn := hp p (List.mem_of_getElem? hx)
      have hg := hblk.lt
      have HX := Lib.hid hx
      have HL := Lib.hid hlaid
      have hsz2 := hb.size
      obtain ⟨u0, e0⟩ : ∃ u, wr.cell? ⟨w.heap.size, k * 7, none⟩ = some u := hblk.there (by have := HZ.out; omega)
      obtain ⟨u1, e1⟩ : ∃ u, wr.cell? ⟨w.heap.size, k * 7 + 1, none⟩ = some u := hblk.there (by have := HZ.out; omega)
      obtain ⟨u2, e2⟩ : ∃ u, wr.cell? ⟨w.heap.size, k * 7 + 2, none⟩ = some u := hblk.there (by have := HZ.out; omega)
      obtain ⟨u3, e3⟩ : ∃ u, wr.cell? ⟨w.heap.size, k * 7 + 3, none⟩ = some u := hblk.there (by have := HZ.out; omega)
      obtain ⟨u4, e4⟩ : ∃ u, wr.cell? ⟨w.heap.size, k * 7 + 4, none⟩ = some u := hblk.there (by have := HZ.out; omega)
      obtain ⟨u5, e5⟩ : ∃ u, wr.cell? ⟨w.heap.size, k * 7 + 5, none⟩ = some u := hblk.there (by have := HZ.out; omega)
      obtain ⟨u6, e6⟩ : ∃ u, wr.cell? ⟨w.heap.size, k * 7 + 6, none⟩ = some u := hblk.there (by have := HZ.out; omega)
      have f0 := hblk.frozen (k * 7)
      have f1 := hblk.frozen (k * 7 + 1)
      have f2 := hblk.frozen (k * 7 + 2)
      have f3 := hblk.frozen (k * 7 + 3)
      have f4 := hblk.frozen (k * 7 + 4)
      have f5 := hblk.frozen (k * 7 + 5)
      have f6 := hblk.frozen (k * 7 + 6)
      have HB := Lib.hid hblk
      have hk0 : (0 : Int) ≤ (k : Int) := by omega
      have hk1 : (k : Int) < (n : Int) := by omega
      clear hblk hx hlaid
      go_wp2_with (go_at_call 74; refine (toCrane_any p _ _ (hrow.more hsz2) hrn).mono ?_; rintro e w1 ⟨g, rfl, ho, hb1⟩; have e01 := (hb1.cell (p := ⟨w.heap.size, k * 7, none⟩) hg).trans e0; have f01 := (hb1.frozen (p := ⟨w.heap.size, k * 7, none⟩) hg).trans f0; have e11 := (hb1.cell (p := ⟨w.heap.size, k * 7 + 1, none⟩) hg).trans e1; have f11 := (hb1.frozen (p := ⟨w.heap.size, k * 7 + 1, none⟩) hg).trans f1; have e21 := (hb1.cell (p := ⟨w.heap.size, k * 7 + 2, none⟩) hg).trans e2; have f21 := (hb1.frozen (p := ⟨w.heap.size, k * 7 + 2, none⟩) hg).trans f2; have e31 := (hb1.cell (p := ⟨w.heap.size, k * 7 + 3, none⟩) hg).trans e3; have f31 := (hb1.frozen (p := ⟨w.heap.size, k * 7 + 3, none⟩) hg).trans f3; have e41 := (hb1.cell (p := ⟨w.heap.size, k * 7 + 4, none⟩) hg).trans e4; have f41 := (hb1.frozen (p := ⟨w.heap.size, k * 7 + 4, none⟩) hg).trans f4; have e51 := (hb1.cell (p := ⟨w.heap.size, k * 7 + 5, none⟩) hg).trans e5; have f51 := (hb1.frozen (p := ⟨w.heap.size, k * 7 + 5, none⟩) hg).trans f5; have e61 := (hb1.cell (p := ⟨w.heap.size, k * 7 + 6, none⟩) hg).trans e6; have f61 := (hb1.frozen (p := ⟨w.heap.size, k * 7 + 6, none⟩) hg).trans f6)
      go_roundw
      case rel => exact ⟨k + 1, _, _, by omega, by go_num, (((((((HB.out.below hb1 hg).set_ (k * 7) (.string p.v.name)).set_ (k * 7 + 1) (.int .i64 p.v.ax)).set_ (k * 7 + 2) (.int .i64 p.v.ay)).set_ (k * 7 + 3) (.int .i64 p.v.height)).set_ (k * 7 + 4) (.int .i64 p.v.jib)).set_ (k * 7 + 5) (.int .i64 p.v.back)).set_ (k * 7 + 6) (.slice (some ⟨g, 0, none⟩) p.r.n p.r.n), by simp [HZ.out], (HL.out.step (p' := ⟨p.v, ⟨some ⟨g, 0, none⟩, p.r.n, p.r.n, p.r.xs⟩⟩) HX.out rfl (fun hf => hf.put7 (x := ⟨p.v, ⟨some ⟨g, 0, none⟩, p.r.n, p.r.n, p.r.xs⟩⟩) (by rw [← HL.out.len]; simp) (by have := HZ.out; omega)) hb1 ho).within ((((((((Within.refl w.heap.size (w.heap.size + 1) w1).setCell (Nat.le_refl _) (by simp) _).setCell (Nat.le_refl _) (by simp) _).setCell (Nat.le_refl _) (by simp) _).setCell (Nat.le_refl _) (by simp) _).setCell (Nat.le_refl _) (by simp) _).setCell (Nat.le_refl _) (by simp) _).setCell (Nat.le_refl _) (by simp) _) (by omega), by have := hb1.size; simp; omega, (((((((hb.trans (hb1.mono hb.size)).setCell (Nat.le_refl _) _).setCell (Nat.le_refl _) _).setCell (Nat.le_refl _) _).setCell (Nat.le_refl _) _).setCell (Nat.le_refl _) _).setCell (Nat.le_refl _) _).setCell (Nat.le_refl _) _⟩
      case measure => simp [intOf]; omega
    · obtain rfl : k = n := by omega
      go_wp2
      go_ret
      exact ⟨w.heap.size, out, rfl, by rw [hlaid.val_, List.take_of_length_le (by rw [List.length_map, h.len]; exact Nat.le_refl _)], hlaid.nown hblk (by rw [HZ.out]; exact Nat.le_refl _), hb⟩

set_option maxRecDepth 100000 in
set_option maxHeartbeats 3200000 in
theorem eqCrane_same (v : CraneV) (r r2 : Row ChartStep) (w : World) (lo lo2 : Nat) (hx : r.xs = r2.xs) (h : Arr ChartStep.cs 2 w lo w.heap.size r.a r.n r.xs) (h2 : Arr ChartStep.cs 2 w lo2 w.heap.size r2.a r2.n r2.xs) (hn : r.n ≤ 9223372036854775807) :
    Calls Try.prog 77 #[.agg #[.string v.name, .int .i64 v.ax, .int .i64 v.ay, .int .i64 v.height, .int .i64 v.jib, .int .i64 v.back, .slice r.a r.n r.cap], .agg #[.string v.name, .int .i64 v.ax, .int .i64 v.ay, .int .i64 v.height, .int .i64 v.jib, .int .i64 v.back, .slice r2.a r2.n r2.cap]] w fun e w' => e = .returned (.bool true) ∧ Below w.heap.size w w' := by
  have hnn : r2.n = r.n := by rw [← h.1, ← h2.1, hx]
  rw [hnn] at h2 ⊢
  rw [← hx] at h2
  clear hx hnn
  go_enter Try.func77, Try.ntmps77
  go_wp2_with fail
  refine (eqPoint_same _ _ _).mono ?_
  rintro _ x0 ⟨rfl, hb0⟩
  have P0 : Blk x0 w.heap.size 78 #[.string v.name, .int .i64 v.ax, .int .i64 v.ay, .int .i64 v.height, .int .i64 v.jib, .int .i64 v.back, .slice r.a r.n r.cap] := ((Blk.new w 78 #[.string v.name, .int .i64 v.ax, .int .i64 v.ay, .int .i64 v.height, .int .i64 v.jib, .int .i64 v.back, .slice r.a r.n r.cap]).alloc (Obj.cells #[.string v.name, .int .i64 v.ax, .int .i64 v.ay, .int .i64 v.height, .int .i64 v.jib, .int .i64 v.back, .slice r2.a r.n r2.cap] 78)).bel hb0
  have Q0 : Blk x0 (w.heap.size + 1) 78 #[.string v.name, .int .i64 v.ax, .int .i64 v.ay, .int .i64 v.height, .int .i64 v.jib, .int .i64 v.back, .slice r2.a r.n r2.cap] := (Blk.new_at (w := w.alloc (Obj.cells #[.string v.name, .int .i64 v.ax, .int .i64 v.ay, .int .i64 v.height, .int .i64 v.jib, .int .i64 v.back, .slice r.a r.n r.cap] 78)) (cs := #[.string v.name, .int .i64 v.ax, .int .i64 v.ay, .int .i64 v.height, .int .i64 v.jib, .int .i64 v.back, .slice r2.a r.n r2.cap]) (t := 78) rfl (by simp) : Blk _ (w.heap.size + 1) _ _).bel hb0
  have hbZ : Below w.heap.size w x0 := Below.trans (by repeat (first | exact Below.refl _ _ | (refine Below.setCell ?_ (by first | (simp; done) | (simp; omega)) _) | (refine Below.alloc ?_ (by first | (simp; done) | (simp; omega)) _) | refine Below.drew ?_)) (hb0.mono (by first | (simp; done) | (simp; omega)))
  obtain ⟨a0, a1, a2, a3, a4, a5, a6⟩ := Crane.blk P0
  obtain ⟨b0, b1, b2, b3, b4, b5, b6⟩ := Crane.blk Q0
  clear hb0
  go_wp2_with fail
  refine (eqChartStepS_same _ _ _ _ _ r.xs _ lo lo2 ((h.below hbZ).more hbZ.size) ((h2.below hbZ).more hbZ.size) hn).mono ?_
  rintro _ x1 ⟨rfl, hb1⟩
  go_wp2
  go_ret
  exact ⟨rfl, hbZ.trans (hb1.mono hbZ.size)⟩

set_option maxRecDepth 100000 in
set_option maxHeartbeats 3200000 in
theorem eqCraneS_same (A A2 : Option Addr) (n c c2 : Nat) (ps ps2 : List Crane) (w : World) (lo lo2 : Nat) (hv : ps.map Crane.val = ps2.map Crane.val) (h : Cranes w lo w.heap.size A n ps) (h2 : Cranes w lo2 w.heap.size A2 n ps2) (hn : n ≤ 9223372036854775807) (hp : ∀ p ∈ ps, p.r.n ≤ 9223372036854775807) :
    Calls Try.prog 46 #[.slice A n c, .slice A2 n c2] w fun e w' => e = .returned (.bool true) ∧ Below w.heap.size w w' := by
  have HV := Lib.hid hv
  clear hv
  go_enter Try.func46, Try.ntmps46
  go_wp2
  go_loopw [5] (fun i wr => ∃ k : Nat, k ≤ n ∧ i = .int .i64 k ∧ Below w.heap.size w wr) (fun i _ => n - (intOf i).toNat)
  case atStart => exact ⟨0, Nat.zero_le _, rfl, Below.refl _ _⟩
  case round =>
    obtain ⟨k, hk, rfl, hb⟩ := hrel
    by_cases hlt : k < n
    · obtain ⟨b, off, p, rfl, hx, _, hbl, hr, c0, c1, c2, c3, c4, c5, c6⟩ := Crane.at (h.below hb) hlt
      obtain ⟨b2, off2, p2, rfl, hx2, _, hbl2, hr2, d0, d1, d2, d3, d4, d5, d6⟩ := Crane.at (h2.below hb) hlt
      have hrn := hp p (List.mem_of_getElem? hx)
      have hvv := val_same HV.out hx hx2
      obtain ⟨v, r⟩ := p
      obtain ⟨v2, r2⟩ := p2
      obtain ⟨e1, e2⟩ : v = v2 ∧ r.xs = r2.xs := by simpa [Crane.val] using hvv
      subst e1
      dsimp only at hr hr2 hrn c0 c1 c2 c3 c4 c5 c6 d0 d1 d2 d3 d4 d5 d6
      have hlt0 : (0 : Int) ≤ (k : Int) := by omega
      have hlt1 : (k : Int) < (n : Int) := by omega
      have hx1 := hbl; have hx3 := hbl2; have hx4 := hb.size
      have E2 := Lib.hid e2
      clear h h2 hx hx2 hvv e2 hp
      go_wp2_with fail
      go_region_held3 (fun w' => w'.cell? ⟨b, off + k * 7, none⟩ = some (.string v.name) ∧ w'.cell? ⟨b, off + k * 7 + 1, none⟩ = some (.int .i64 v.ax) ∧ w'.cell? ⟨b, off + k * 7 + 2, none⟩ = some (.int .i64 v.ay) ∧ w'.cell? ⟨b, off + k * 7 + 3, none⟩ = some (.int .i64 v.height) ∧ w'.cell? ⟨b, off + k * 7 + 4, none⟩ = some (.int .i64 v.jib) ∧ w'.cell? ⟨b, off + k * 7 + 5, none⟩ = some (.int .i64 v.back) ∧ w'.cell? ⟨b, off + k * 7 + 6, none⟩ = some (.slice r.a r.n r.cap) ∧ w'.cell? ⟨b2, off2 + k * 7, none⟩ = some (.string v.name) ∧ w'.cell? ⟨b2, off2 + k * 7 + 1, none⟩ = some (.int .i64 v.ax) ∧ w'.cell? ⟨b2, off2 + k * 7 + 2, none⟩ = some (.int .i64 v.ay) ∧ w'.cell? ⟨b2, off2 + k * 7 + 3, none⟩ = some (.int .i64 v.height) ∧ w'.cell? ⟨b2, off2 + k * 7 + 4, none⟩ = some (.int .i64 v.jib) ∧ w'.cell? ⟨b2, off2 + k * 7 + 5, none⟩ = some (.int .i64 v.back) ∧ w'.cell? ⟨b2, off2 + k * 7 + 6, none⟩ = some (.slice r2.a r2.n r2.cap)) (first | go_keep | exact ⟨(hb1.cell (by simp; omega)).trans c0, (hb1.cell (by simp; omega)).trans c1, (hb1.cell (by simp; omega)).trans c2, (hb1.cell (by simp; omega)).trans c3, (hb1.cell (by simp; omega)).trans c4, (hb1.cell (by simp; omega)).trans c5, (hb1.cell (by simp; omega)).trans c6, (hb1.cell (by simp; omega)).trans d0, (hb1.cell (by simp; omega)).trans d1, (hb1.cell (by simp; omega)).trans d2, (hb1.cell (by simp; omega)).trans d3, (hb1.cell (by simp; omega)).trans d4, (hb1.cell (by simp; omega)).trans d5, (hb1.cell (by simp; omega)).trans d6⟩) (first | (go_at_call 77; refine (eqCrane_same v r r2 _ lo lo2 E2.out ((hr.below ((Below.refl _ _).drew)).more hx4) ((hr2.below ((Below.refl _ _).drew)).more hx4) hrn).mono ?_; rintro e w1 ⟨rfl, hb1⟩))
      go_wp2
      go_roundw
      case rel => exact ⟨k + 1, by omega, by go_num, hb.trans ((Below.drew (Below.refl _ _)).trans (hb1.mono hb.size))⟩
      case measure => simp [intOf]; omega
    · obtain rfl : k = n := by omega
      go_wp2
      go_ret
      exact ⟨rfl, hb⟩
end Go.Proofs.Ytencnldflnbdiaa
