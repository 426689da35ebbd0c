/- DismantleOrder of the program: the searches at its closures. -/
import Derived.Test.YtencnldflnbdiaaDisTake
namespace Go.Proofs.Ytencnldflnbdiaa
open Go.RowKit Go.Sort
set_option linter.unusedVariables false

set_option maxHeartbeats 800000 in
theorem indexTake_any (A : Option Addr) (n c : Nat) (xs : List Int) (w : World) (lo : Nat) (h : Arr ic 1 w lo w.heap.size A n xs) (hn : n ≤ 9223372036854775807) (q : Int → Bool) (g1 g2 : Addr)
    (hf : ∀ (v : Int) (W : World), v ∈ xs → Below w.heap.size w W → Calls Try.prog 42 #[.int .i64 v, .pointer (some g1), .pointer (some g2)] W fun e W' => e = .returned (.bool (q v)) ∧ Below W.heap.size W W') :
    Calls Try.prog 44 #[.slice A n c, .func (.func 42) #[] #[.pointer (some g1), .pointer (some g2)]] w fun e w' => e = .returned (.int .i64 (fIdx q xs)) ∧ Below w.heap.size w w' := by
  have HF := Lib.hid hf
  clear hf
  go_enter Try.func44, Try.ntmps44
  go_wp2
  go_loopw [8] (fun i wr => ∃ k : Nat, k ≤ n ∧ i = .int .i64 k ∧ noTo q xs k = true ∧ Below w.heap.size w wr) (fun i _ => n - (intOf i).toNat)
  case atStart => exact ⟨0, Nat.zero_le _, rfl, rfl, Below.refl _ _⟩
  case round =>
    obtain ⟨k, hk, rfl, hno, hb⟩ := hrel
    have HN := Lib.hid hno
    clear hno
    by_cases hlt : k < n
    · obtain ⟨b, off, v, rfl, hx, _, hbl, c0⟩ := Ints.at (h.below hb) hlt
      have HX := Lib.hid hx
      have hk0 : (0 : Int) ≤ (k : Int) := by omega
      have hk1 : (k : Int) < (n : Int) := by omega
      clear hx
      cases hq : q v
      · have HQ := Lib.hid hq
        clear hq
        go_wp2_with (go_at_call 42; refine (HF.out v _ (List.mem_of_getElem? HX.out) hb).mono ?_; rintro e w1 ⟨rfl, hb1⟩; rw [HQ.out])
        go_roundw
        case rel => exact ⟨k + 1, by omega, by go_num, noTo_step HN.out HX.out HQ.out, hb.trans (hb1.mono hb.size)⟩
        case measure => simp [intOf]; omega
      · have HQ := Lib.hid hq
        clear hq
        go_wp2_with (go_at_call 42; refine (HF.out v _ (List.mem_of_getElem? HX.out) hb).mono ?_; rintro e w1 ⟨rfl, hb1⟩; rw [HQ.out])
        go_ret
        exact ⟨by rw [fIdx_hit HN.out HX.out HQ.out]; rfl, hb.trans (hb1.mono hb.size)⟩
    · obtain rfl : k = n := by omega
      have HE : Hid (fIdx q xs = -1) := fIdx_none (by rw [h.1]; exact HN.out)
      go_wp2
      go_ret
      exact ⟨by rw [HE.out]; rfl, hb⟩

theorem containsTake_any (A : Option Addr) (n c : Nat) (xs : List Int) (w : World) (lo : Nat) (h : Arr ic 1 w lo w.heap.size A n xs) (hn : n ≤ 9223372036854775807) (q : Int → Bool) (g1 g2 : Addr)
    (hf : ∀ (v : Int) (W : World), v ∈ xs → Below w.heap.size w W → Calls Try.prog 42 #[.int .i64 v, .pointer (some g1), .pointer (some g2)] W fun e W' => e = .returned (.bool (q v)) ∧ Below W.heap.size W W') :
    Calls Try.prog 41 #[.slice A n c, .func (.func 42) #[] #[.pointer (some g1), .pointer (some g2)]] w fun e w' => e = .returned (.bool (xs.any q)) ∧ Below w.heap.size w w' := by
  have HF := Lib.hid hf
  clear hf
  have HA : Hid (xs.any q = decide (0 ≤ fIdx q xs)) := any_fIdx q xs
  go_enter Try.func41, Try.ntmps41
  go_wp2_with fail
  refine (indexTake_any A n c xs _ lo h hn q g1 g2 HF.out).mono ?_
  rintro e w1 ⟨rfl, hb⟩
  go_wp2
  go_ret
  exact ⟨by rw [HA.out]; rfl, hb⟩

set_option maxRecDepth 100000 in
set_option maxHeartbeats 1600000 in
theorem disHelped_any (bL bS i m c2 : Nat) (A2 : Option Addr) (l : List Nat) (s : Row Crane) (cs : List CV) (hv : s.xs.map Crane.val = cs) (w : World) (lo lo2 : Nat) (hL : w.cell? ⟨bL, 0, none⟩ = some (.slice A2 m c2)) (hbL : bL < w.heap.size) (hA2 : Arr ic 1 w lo2 w.heap.size A2 m (ints l)) (hm : m ≤ 1048576) (hl : ∀ j ∈ l, j < s.n) (hs : SiteAt w bS s) (hbS : bS < w.heap.size) (h : Cranes w lo w.heap.size s.a s.n s.xs) (hn : s.n ≤ 1048576) (hok : siteOk cs = true) (hi : i < s.n) :
    Calls Try.prog 40 #[.int .i64 (i : Int), .pointer (some ⟨bL, 0, none⟩), .pointer (some ⟨bS, 0, none⟩)] w fun e w' => e = .returned (.bool (helpN cs l i)) ∧ Below w.heap.size w w' := by
  have HT : Hid (helpN cs l i = (ints l).any (tk cs i)) := by
    show _ = _
    unfold helpN ints tk
    rw [List.any_map]
    congr 1
    funext k
    simp only [Function.comp, Int.toNat_natCast]
    congr 2
    exact decide_eq_decide.2 (by omega)
  obtain ⟨W, hW⟩ : ∃ W : World, W = w.alloc (.cells #[.int .i64 (i : Int)] 2) := ⟨_, rfl⟩
  have hb : Below w.heap.size w W := by rw [hW]; exact (Below.refl _ _).alloc (Nat.le_refl _) _
  have ci : W.cell? ⟨w.heap.size, 0, none⟩ = some (.int .i64 (i : Int)) := by rw [hW]; simp
  have hsz : w.heap.size < W.heap.size := by rw [hW]; simp
  have cL : W.cell? ⟨bL, 0, none⟩ = some (.slice A2 m c2) := (hb.cell (p := ⟨bL, 0, none⟩) hbL).trans hL
  have HB := Lib.hid hb
  have HI := Lib.hid ci
  have HS : Hid (SiteAt W bS s) := (hb.cell (p := ⟨bS, 0, none⟩) hbS).trans hs
  have HC := Lib.hid ((h.below hb).more hb.size)
  have HA := Lib.hid ((hA2.below hb).more hb.size)
  have HF : Hid (∀ (v : Int) (X : World), v ∈ ints l → Below W.heap.size W X → Calls Try.prog 42 #[.int .i64 v, .pointer (some ⟨bS, 0, none⟩), .pointer (some ⟨w.heap.size, 0, none⟩)] X fun e W' => e = .returned (.bool (tk cs i v)) ∧ Below X.heap.size X W') := fun v X hvx hX => by
    obtain ⟨j, hj⟩ := List.getElem?_of_mem hvx
    obtain ⟨k, hk, rfl⟩ := ints_at' hj
    exact disTake_any bS w.heap.size i k s cs hv X lo ((hX.cell (p := ⟨bS, 0, none⟩) (show bS < W.heap.size by have := HB.out.size; omega)).trans HS.out) (by have := HB.out.size; have := hX.size; omega) ((hX.cell (p := ⟨w.heap.size, 0, none⟩) hsz).trans HI.out) (by have := hX.size; omega) ((HC.out.below hX).more hX.size) hn hok hi (hl k (List.mem_of_getElem? hk))
  clear hA2 hs h hb ci hsz hv cL
  go_enter Try.func40, Try.ntmps40
  go_wp2_with fail
  rw [← hW]
  clear hW hL
  refine (containsTake_any A2 m c2 (ints l) _ lo2 HA.out (by omega) (tk cs i) _ _ HF.out).mono ?_
  rintro e w1 ⟨rfl, hb1⟩
  go_wp2
  go_ret
  exact ⟨by rw [HT.out]; rfl, HB.out.trans (hb1.mono HB.out.size)⟩

set_option maxHeartbeats 800000 in
theorem indexHelp_any (A : Option Addr) (n c : Nat) (xs : List Int) (w : World) (lo : Nat) (h : Arr ic 1 w lo w.heap.size A n xs) (hn : n ≤ 9223372036854775807) (q : Int → Bool) (g1 g2 : Addr)
    (hf : ∀ (v : Int) (W : World), v ∈ xs → Below w.heap.size w W → Calls Try.prog 40 #[.int .i64 v, .pointer (some g1), .pointer (some g2)] W fun e W' => e = .returned (.bool (q v)) ∧ Below W.heap.size W W') :
    Calls Try.prog 44 #[.slice A n c, .func (.func 40) #[] #[.pointer (some g1), .pointer (some g2)]] w fun e w' => e = .returned (.int .i64 (fIdx q xs)) ∧ Below w.heap.size w w' := by
  have HF := Lib.hid hf
  clear hf
  go_enter Try.func44, Try.ntmps44
  go_wp2
  go_loopw [8] (fun i wr => ∃ k : Nat, k ≤ n ∧ i = .int .i64 k ∧ noTo q xs k = true ∧ Below w.heap.size w wr) (fun i _ => n - (intOf i).toNat)
  case atStart => exact ⟨0, Nat.zero_le _, rfl, rfl, Below.refl _ _⟩
  case round =>
    obtain ⟨k, hk, rfl, hno, hb⟩ := hrel
    have HN := Lib.hid hno
    clear hno
    by_cases hlt : k < n
    · obtain ⟨b, off, v, rfl, hx, _, hbl, c0⟩ := Ints.at (h.below hb) hlt
      have HX := Lib.hid hx
      have hk0 : (0 : Int) ≤ (k : Int) := by omega
      have hk1 : (k : Int) < (n : Int) := by omega
      clear hx
      cases hq : q v
      · have HQ := Lib.hid hq
        clear hq
        go_wp2_with (go_at_call 40; refine (HF.out v _ (List.mem_of_getElem? HX.out) hb).mono ?_; rintro e w1 ⟨rfl, hb1⟩; rw [HQ.out])
        go_roundw
        case rel => exact ⟨k + 1, by omega, by go_num, noTo_step HN.out HX.out HQ.out, hb.trans (hb1.mono hb.size)⟩
        case measure => simp [intOf]; omega
      · have HQ := Lib.hid hq
        clear hq
        go_wp2_with (go_at_call 40; refine (HF.out v _ (List.mem_of_getElem? HX.out) hb).mono ?_; rintro e w1 ⟨rfl, hb1⟩; rw [HQ.out])
        go_ret
        exact ⟨by rw [fIdx_hit HN.out HX.out HQ.out]; rfl, hb.trans (hb1.mono hb.size)⟩
    · obtain rfl : k = n := by omega
      have HE : Hid (fIdx q xs = -1) := fIdx_none (by rw [h.1]; exact HN.out)
      go_wp2
      go_ret
      exact ⟨by rw [HE.out]; rfl, hb⟩
end Go.Proofs.Ytencnldflnbdiaa
