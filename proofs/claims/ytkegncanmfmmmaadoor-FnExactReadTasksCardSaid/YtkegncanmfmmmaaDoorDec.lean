/- The decimal form of a number: Decimal of the program, l01Dec of the reference: both hand back decS. -/
import Derived.Test.YtkegncanmfmmmaaDoorDecLaw
import Derived.Test.YtkegncanmfmmmaaDoorGrow2
import Derived.Test.YtkegncanmfmmmaaDoorFind
import Derived.Test.YtkegncanmfmmmaaDoorShelf
import Derived.Laws.IdiomStrings
import Derived.Lib.AppendIntMem
namespace Go.Proofs.YtkegncanmfmmmaaDoor
open Go.RowKit Go.Sort
set_option linter.unusedVariables false

def yc (b : UInt8) : List Value := [.int .u8 (b.toNat : Int)]
theorem yc_len (b : UInt8) : (yc b).length = 1 := rfl
theorem yc_one (b : UInt8) : ∀ u ∈ yc b, u.oneCell' = true := by intro u hu; simp [yc] at hu; subst hu; rfl
theorem infoU8 : (Tryd.prog.info? 5).map (fun i => (i.zero, i.size, i.bytes)) = some (some (.int .u8 0), 1, 1) := by kernel_rfl
theorem Grow.byte (w : World) (lo : Nat) (b : UInt8) (hlo : lo ≤ w.heap.size) : Grow yc 1 (w.alloc (.cells #[.int .u8 (b.toNat : Int)] 5)) lo 5 (.slice (some ⟨w.heap.size, 0, none⟩) 1 1) [b] := by
  have := World.ownsRow_lit (e := 5) (base := lo) (size := 1) w #[.int .u8 (b.toNat : Int)] 1 hlo (by decide) rfl
  simpa [Grow, yc] using this
/-- the decimal form -/
def decS (n : Int) : ByteArray := ⟨(Lib.itoa n).toArray⟩
def TabW (w : World) : Prop := Lib.TabBelow Tryd.prog w.heap.size w "internal/strconv.uint64pow10" .u64 Lib.pow10Tab
theorem TabW.bel {w w' : World} (h : TabW w) (hb : Below w.heap.size w w') : TabW w' := fun x hx => h x (hb.trans (hx.mono hb.size))
theorem decimal_any (n : Int) (h0 : -9223372036854775808 ≤ n) (h1 : n ≤ 9223372036854775807) (w : World) (ht : TabW w) :
    Calls Tryd.prog 99 #[.int .i64 n] w fun e w' => e = .returned (.string (decS n)) ∧ Below w.heap.size w w' := by
  have HT := Lib.hid ht.here
  clear ht
  go_enter Tryd.func99, Tryd.ntmps99
  go_wp2_with fail
  refine (Tryd.strconv_FormatInt_10 n h0 h1 _ HT.out).mono ?_
  rintro e w1 ⟨rfl, k, os, hw⟩
  have hb : Below w.heap.size w w1 := by rw [hw]; exact (bel_drewN (Below.refl _ _) k).trans ⟨rfl, rfl, rfl, by simp [grow], fun i hi => by simp [grow, Array.getElem?_append, hi]⟩
  clear hw
  go_wp2
  go_ret
  exact ⟨rfl, hb⟩

theorem byte_nat {x : Nat} (h : x < 10) : (UInt8.ofNat (48 + x)).toNat = 48 + x := by
  rw [UInt8.toNat_ofNat']; exact Nat.mod_eq_of_lt (by omega)
/-- the digits that have been put ahead lie in a row of the call's own -/
def DigAt (lo : Nat) (v : Value) (ds : List UInt8) (w : World) : Prop := ∃ g cap, v = .slice (some ⟨g, 0, none⟩) ds.length cap ∧ lo ≤ g ∧ g < w.heap.size ∧ Arr yc 1 w g (g + 1) (some ⟨g, 0, none⟩) ds.length ds
theorem DigAt.of {lo : Nat} {v : Value} {ds : List UInt8} {w : World} (h : Grow yc 1 w lo 5 v ds) (h0 : 0 < ds.length) : DigAt lo v ds w := by
  obtain ⟨A, cap, rfl, ho⟩ := h.own yc_len
  obtain ⟨g, cs, e1, h1, h2, h3, h4, h5⟩ := ho.2 h0
  subst e1
  refine ⟨g, cap, rfl, h1, h2, ds.length.le_refl |> fun _ => rfl, fun _ => ⟨g, 0, rfl, Nat.le_refl _, Nat.lt_succ_self _, fun i x hx j u hu => ?_⟩⟩
  have hj : j < 1 := (List.getElem?_eq_some_iff.1 hu).1
  rw [cell_of_row w g (0 + i * 1 + j) cs _ (0, 0) h3, Nat.zero_add, h5 i x hx j hj, hu]
theorem add_plain0 (g j : Nat) : (⟨g, 0, none⟩ : Addr).add j = ⟨g, j, none⟩ := by unfold Addr.add; split <;> simp_all
theorem DigAt.cells {w : World} {g n : Nat} {ds : List UInt8} (h : Arr yc 1 w g (g + 1) (some ⟨g, 0, none⟩) ds.length ds) : ∀ j (hj : j < ds.length), w.cell? ((⟨g, 0, none⟩ : Addr).add j) = some (.int .u8 (ds[j].toNat : Int)) := by
  intro j hj
  obtain ⟨b, off, e, _, _, hc⟩ := h.2 (by omega)
  cases e
  have := hc j _ (List.getElem?_eq_getElem hj) 0 _ rfl
  rw [add_plain0]
  rwa [Nat.zero_add, Nat.mul_one, Nat.add_zero] at this
theorem itoa_pos {u : Nat} : Lib.itoa (u : Int) = Lib.decDigits u := Lib.itoa_nonneg u
set_option maxRecDepth 100000 in
set_option maxHeartbeats 3200000 in
theorem decPos_any (u : Nat) (h0 : 0 < u) (h1 : u ≤ 9223372036854775807) (w : World) :
    Calls Tryd.prog 102 #[.int .i64 (u : Int)] w fun e w' => e = .returned (.string (decS (u : Int))) ∧ Below w.heap.size w w' := by
  have HS := Lib.hid (DecSt.start h0)
  have h00 : ¬ (u : Int) < 0 := by omega
  obtain ⟨W, hW⟩ : ∃ W : World, W = w.alloc (.cells #[] 5) := ⟨_, rfl⟩
  have HB0 : Hid (Below w.heap.size w W) := by rw [hW]; exact (Below.refl _ _).alloc (Nat.le_refl _) _
  have HD0 : Hid (DigAt w.heap.size (.slice (some ⟨w.heap.size, 0, none⟩) 0 0) [] W) := by
    rw [hW]; exact ⟨w.heap.size, 0, rfl, Nat.le_refl _, by simp, rfl, fun h => absurd h (by decide)⟩
  go_enter Tryd.func102, Tryd.ntmps102
  go_wp2
  rw [← hW]
  clear hW
  go_loopw [3, 4, 5] (fun v3 v4 v5 wr => ∃ (m : Nat) (ds : List UInt8), m ≤ u ∧ v4 = .int .i64 (m : Int) ∧ DecSt u m ds ∧ DigAt w.heap.size v3 ds wr ∧ Below w.heap.size w wr) (fun _ v4 _ _ => (intOf v4).toNat)
  case atStart => exact ⟨u, [], Nat.le_refl _, rfl, HS.out, HD0.out, HB0.out⟩
  case round =>
    obtain ⟨m, ds, hm, rfl, hds, hdig, hb⟩ := hrel
    have HDS := Lib.hid hds
    have hlen := hds.len (by omega)
    obtain ⟨g, cap, rfl, hg1, hg2, harr⟩ := hdig
    have HAR := Lib.hid harr
    have hsz := hb.size
    clear hds harr
    by_cases hm0 : m = 0
    · subst hm0
      have HE : Hid (ds = Lib.decDigits u) := HDS.out.1 rfl
      have hl0 : 0 < ds.length := by rw [HE.out, Lib.decDigits_length]; have := Lib.nDigits_pos u; omega
      have HL : Hid (((ds.length : Int) == 0) = false) := beq_eq_false_iff_ne.2 (by omega)
      have HR : Hid (decS (u : Int) = ⟨ds.toArray⟩) := by show _ = _; unfold decS; rw [itoa_pos, HE.out]
      have hcv := run_convert_bytes_back (P := Tryd.prog) wr 22 9 5 ⟨g, 0, none⟩ cap ds Tryd.underlying22 Tryd.underlying5 Tryd.underlying9 (DigAt.cells (n := 0) HAR.out)
      have hl' := HL.out
      go_wp2
      go_ret
      exact ⟨by rw [HR.out]; rfl, hb⟩
    · have HM : Hid (((m : Int) != 0) = true) := bne_iff_ne.2 (by omega)
      have hrem : (m : Int).tmod 10 = ((m % 10 : Nat) : Int) := by rw [show (10 : Int) = ((10 : Nat) : Int) from rfl, ← Int.ofNat_tmod]
      have hquo : (m : Int).tdiv 10 = ((m / 10 : Nat) : Int) := by rw [show (10 : Int) = ((10 : Nat) : Int) from rfl, ← Int.ofNat_tdiv]
      have hx10 : m % 10 < 10 := Nat.mod_lt _ (by decide)
      have HST := Lib.hid (HDS.out.step (by omega))
      have HBY : Hid (((UInt8.ofNat (48 + m % 10)).toNat : Int) = 48 + ((m % 10 : Nat) : Int)) := by show _ = _; rw [byte_nat hx10]; push_cast; rfl
      have hmq : m / 10 < m := Nat.div_lt_self (by omega) (by decide)
      have hm1 := HM.out
      generalize m % 10 = x at *
      generalize m / 10 = m2 at *
      have hn0 : ¬ (x : Int) < 0 := by omega
      have HGB : Hid (Grow yc 1 (wr.alloc (.cells #[.int .u8 (48 + (x : Int))] 5)) w.heap.size 5 (.slice (some ⟨wr.heap.size, 0, none⟩) 1 1) [UInt8.ofNat (48 + x)]) := by
        have h9 := Grow.byte wr w.heap.size (UInt8.ofNat (48 + x)) hsz
        rw [HBY.out] at h9
        exact h9
      have HAR2 : Hid (Arr yc 1 (wr.alloc (.cells #[.int .u8 (48 + (x : Int))] 5)) g (g + 1) (some ⟨g, 0, none⟩) ds.length ds) := HAR.out.below ((Below.refl _ _).alloc (by omega) _)
      go_wp2_with (at_builtin; refine wpList_join _ rfl _ _ 22 rfl w.heap.size 5 (.int .u8 0) 1 Tryd.underlying22 infoU8 rfl (by omega) _ [UInt8.ofNat (48 + x)] ds rfl HGB.out ⟨g, 0, none⟩ ds.length cap rfl g (g + 1) HAR2.out yc_len yc_one (by simp; omega) (by omega) (by simp; omega) ?_; intro v5 w5 hg5 hgr5)
      have hb5 : Below w.heap.size w w5 := HGB.out.below ((hb.alloc hsz _)) hgr5 (Nat.le_refl _) (by simp; omega)
      have HDG : Hid (DigAt w.heap.size v5 (UInt8.ofNat (48 + x) :: ds) w5) := DigAt.of hg5 (by simp)
      have HB5 := Lib.hid hb5
      clear hg5 hgr5 hb5
      go_wp2
      go_roundw
      case rel => exact ⟨m2, _, by omega, rfl, HST.out, HDG.out, HB5.out⟩
      case measure => simp [intOf]; omega
set_option maxRecDepth 100000 in
set_option maxHeartbeats 3200000 in
theorem decNeg_any (u : Nat) (h0 : 0 < u) (h1 : u ≤ 9223372036854775808) (w : World) :
    Calls Tryd.prog 102 #[.int .i64 (-(u : Int))] w fun e w' => e = .returned (.string (decS (-(u : Int)))) ∧ Below w.heap.size w w' := by
  have HS := Lib.hid (DecSt.start h0)
  have h00 : -(u : Int) < 0 := by omega
  obtain ⟨W, hW⟩ : ∃ W : World, W = w.alloc (.cells #[] 5) := ⟨_, rfl⟩
  have HB0 : Hid (Below w.heap.size w W) := by rw [hW]; exact (Below.refl _ _).alloc (Nat.le_refl _) _
  have HD0 : Hid (DigAt w.heap.size (.slice (some ⟨w.heap.size, 0, none⟩) 0 0) [] W) := by
    rw [hW]; exact ⟨w.heap.size, 0, rfl, Nat.le_refl _, by simp, rfl, fun h => absurd h (by decide)⟩
  go_enter Tryd.func102, Tryd.ntmps102
  go_wp2
  rw [← hW]
  clear hW
  go_loopw [3, 4, 5] (fun v3 v4 v5 wr => ∃ (m : Nat) (ds : List UInt8), m ≤ u ∧ v4 = .int .i64 (-(m : Int)) ∧ DecSt u m ds ∧ DigAt w.heap.size v3 ds wr ∧ Below w.heap.size w wr) (fun _ v4 _ _ => (-(intOf v4)).toNat)
  case atStart => exact ⟨u, [], Nat.le_refl _, rfl, HS.out, HD0.out, HB0.out⟩
  case round =>
    obtain ⟨m, ds, hm, rfl, hds, hdig, hb⟩ := hrel
    have HDS := Lib.hid hds
    have hlen := hds.len (by omega)
    obtain ⟨g, cap, rfl, hg1, hg2, harr⟩ := hdig
    have HAR := Lib.hid harr
    have hsz := hb.size
    clear hds harr
    by_cases hm0 : m = 0
    · subst hm0
      have HE : Hid (ds = Lib.decDigits u) := HDS.out.1 rfl
      have hl0 : 0 < ds.length := by rw [HE.out, Lib.decDigits_length]; have := Lib.nDigits_pos u; omega
      have HL : Hid (((ds.length : Int) == 0) = false) := beq_eq_false_iff_ne.2 (by omega)
      have HR : Hid (decS (-(u : Int)) = ⟨(45 :: ds).toArray⟩) := by show _ = _; unfold decS; rw [Lib.itoa_neg u (by omega), HE.out]
      have hcv := run_convert_bytes_back (P := Tryd.prog) wr 22 9 5 ⟨g, 0, none⟩ cap ds Tryd.underlying22 Tryd.underlying5 Tryd.underlying9 (DigAt.cells (n := 0) HAR.out)
      have hl' := HL.out
      go_wp2
      go_ret
      exact ⟨by rw [HR.out]; rfl, hb⟩
    · have HM : Hid ((-(m : Int) != 0) = true) := bne_iff_ne.2 (by omega)
      have hrem : (-(m : Int)).tmod 10 = -((m % 10 : Nat) : Int) := by rw [Int.neg_tmod, show (10 : Int) = ((10 : Nat) : Int) from rfl, ← Int.ofNat_tmod]
      have hquo : (-(m : Int)).tdiv 10 = -((m / 10 : Nat) : Int) := by rw [Int.neg_tdiv, show (10 : Int) = ((10 : Nat) : Int) from rfl, ← Int.ofNat_tdiv]
      have hx10 : m % 10 < 10 := Nat.mod_lt _ (by decide)
      have HST := Lib.hid (HDS.out.step (by omega))
      have HBY : Hid (((UInt8.ofNat (48 + m % 10)).toNat : Int) = 48 + ((m % 10 : Nat) : Int)) := by show _ = _; rw [byte_nat hx10]; push_cast; rfl
      have hmq : m / 10 < m := Nat.div_lt_self (by omega) (by decide)
      have hm1 := HM.out
      generalize m % 10 = x at *
      generalize m / 10 = m2 at *
      rcases Nat.eq_zero_or_pos x with hx0 | hx0
      · subst hx0
        have hrem0 : (-(m : Int)).tmod 10 = 0 := by rw [hrem]; rfl
        have e48 : ((UInt8.ofNat (48 + 0)).toNat : Int) = 48 := by decide
        clear hrem
        have HGB : Hid (Grow yc 1 (wr.alloc (.cells #[.int .u8 (48)] 5)) w.heap.size 5 (.slice (some ⟨wr.heap.size, 0, none⟩) 1 1) [UInt8.ofNat (48 + 0)]) := by
          have h9 := Grow.byte wr w.heap.size (UInt8.ofNat (48 + 0)) hsz
          rw [e48] at h9
          exact h9
        have HAR2 : Hid (Arr yc 1 (wr.alloc (.cells #[.int .u8 (48)] 5)) g (g + 1) (some ⟨g, 0, none⟩) ds.length ds) := HAR.out.below ((Below.refl _ _).alloc (by omega) _)
        go_wp2_with (at_builtin; refine wpList_join _ rfl _ _ 22 rfl w.heap.size 5 (.int .u8 0) 1 Tryd.underlying22 infoU8 rfl (by omega) _ [UInt8.ofNat (48 + 0)] ds rfl HGB.out ⟨g, 0, none⟩ ds.length cap rfl g (g + 1) HAR2.out yc_len yc_one (by simp; omega) (by omega) (by simp; omega) ?_; intro v5 w5 hg5 hgr5)
        have hb5 : Below w.heap.size w w5 := HGB.out.below ((hb.alloc hsz _)) hgr5 (Nat.le_refl _) (by simp; omega)
        have HDG : Hid (DigAt w.heap.size v5 (UInt8.ofNat (48 + 0) :: ds) w5) := DigAt.of hg5 (by simp)
        have HB5 := Lib.hid hb5
        clear hg5 hgr5 hb5
        go_wp2
        go_roundw
        case rel => exact ⟨m2, _, by omega, rfl, HST.out, HDG.out, HB5.out⟩
        case measure => simp [intOf]; omega
      · have hn0 : -(x : Int) < 0 := by omega
        have HGB : Hid (Grow yc 1 (wr.alloc (.cells #[.int .u8 (48 + (x : Int))] 5)) w.heap.size 5 (.slice (some ⟨wr.heap.size, 0, none⟩) 1 1) [UInt8.ofNat (48 + x)]) := by
          have h9 := Grow.byte wr w.heap.size (UInt8.ofNat (48 + x)) hsz
          rw [HBY.out] at h9
          exact h9
        have HAR2 : Hid (Arr yc 1 (wr.alloc (.cells #[.int .u8 (48 + (x : Int))] 5)) g (g + 1) (some ⟨g, 0, none⟩) ds.length ds) := HAR.out.below ((Below.refl _ _).alloc (by omega) _)
        go_wp2_with (at_builtin; refine wpList_join _ rfl _ _ 22 rfl w.heap.size 5 (.int .u8 0) 1 Tryd.underlying22 infoU8 rfl (by omega) _ [UInt8.ofNat (48 + x)] ds rfl HGB.out ⟨g, 0, none⟩ ds.length cap rfl g (g + 1) HAR2.out yc_len yc_one (by simp; omega) (by omega) (by simp; omega) ?_; intro v5 w5 hg5 hgr5)
        have hb5 : Below w.heap.size w w5 := HGB.out.below ((hb.alloc hsz _)) hgr5 (Nat.le_refl _) (by simp; omega)
        have HDG : Hid (DigAt w.heap.size v5 (UInt8.ofNat (48 + x) :: ds) w5) := DigAt.of hg5 (by simp)
        have HB5 := Lib.hid hb5
        clear hg5 hgr5 hb5
        go_wp2
        go_roundw
        case rel => exact ⟨m2, _, by omega, rfl, HST.out, HDG.out, HB5.out⟩
        case measure => simp [intOf]; omega
set_option maxRecDepth 100000 in
theorem l01Dec_any (n : Int) (h0 : -9223372036854775808 ≤ n) (h1 : n ≤ 9223372036854775807) (w : World) :
    Calls Tryd.prog 102 #[.int .i64 n] w fun e w' => e = .returned (.string (decS n)) ∧ Below w.heap.size w w' := by
  rcases Int.lt_trichotomy n 0 with h | h | h
  · obtain ⟨u, rfl⟩ : ∃ u : Nat, n = -(u : Int) := ⟨n.natAbs, by omega⟩
    exact decNeg_any u (by omega) (by omega) w
  · subst h
    have HR : Hid (decS 0 = ⟨#[48]⟩) := by show _ = _; unfold decS; rw [show (0 : Int) = ((0 : Nat) : Int) from rfl, itoa_pos, dec_small (by decide)]; rfl
    obtain ⟨W, hW⟩ : ∃ W : World, W = w.alloc (.cells #[] 5) := ⟨_, rfl⟩
    have HB0 : Hid (Below w.heap.size w W) := by rw [hW]; exact (Below.refl _ _).alloc (Nat.le_refl _) _
    go_enter Tryd.func102, Tryd.ntmps102
    go_wp2
    rw [← hW]
    clear hW
    go_loopw [3, 4, 5] (fun v3 v4 v5 wr => v3 = .slice (some ⟨w.heap.size, 0, none⟩) 0 0 ∧ v4 = .int .i64 0 ∧ wr = W) (fun _ _ _ _ => 0)
    case atStart => exact ⟨rfl, rfl, rfl⟩
    case round =>
      obtain ⟨rfl, rfl, rfl⟩ := hrel
      go_wp2
      go_ret
      exact ⟨by rw [HR.out]; rfl, HB0.out⟩
  · obtain ⟨u, rfl⟩ : ∃ u : Nat, n = (u : Int) := ⟨n.toNat, by omega⟩
    exact decPos_any u (by omega) (by omega) w
end Go.Proofs.YtkegncanmfmmmaaDoor
