/- sort.swapRange_func and sort.rotate_func at elements of k cells: what they turn. -/
import Derived.Test.YtmchkhjchpnmaaaMgRow
namespace Go.Proofs.Ytmchkhjchpnmaaa
open Go.Proofs Go.Shelf Go.RowKit Go.Lib Go.Sort
set_option linter.unusedVariables false
set_option linter.unusedSectionVars false
variable {P : Program} {ρ : Ren} {α : Type} [Inhabited α] {enc : α → List Value} {k : Nat}

set_option maxHeartbeats 2000000 in
set_option maxRecDepth 100000 in
theorem swapRange_K (L : LaysGt.n49 P ρ) (hk : ∀ x, (enc x).length = k) (g : Nat) (lb : Array Value) (sf : Nat) (sb : Array Value) (blk off a b n : Nat) (d : Array α) (W : World)
    (hswap : SwapSwapsK P sf sb enc k blk off d.size) (hH : HoldsK enc k W blk off d) (hblk : blk < W.heap.size) (hab : a + n ≤ b) (hb : b + n ≤ d.size) (hsz : d.size < 4611686018427387904) :
    Calls P (ρ.f 49) #[.agg #[.func (.func g) #[] lb, .func (.func sf) #[] sb], .int .i64 a, .int .i64 b, .int .i64 n] W fun e w' => e = .returned (.tuple #[]) ∧ ∃ d', BlkIn a b n d d' ∧ PermIn a (b + n) d d' ∧ SWR enc k W blk off d' w' := by
  have mixed := L.mixed; have t0 := L.t0; have a0 := L.a0; have z0 := L.z0; have v0 := L.v0; have t3 := L.t3; have a3 := L.a3; have z3 := L.z3; have v3 := L.v3; have t4 := L.t4; have a4 := L.a4; have z4 := L.z4; have v4 := L.v4; have t26 := L.t26; have a26 := L.a26; have z26 := L.z26; have v26 := L.v26; have t38 := L.t38; have a38 := L.a38; have z38 := L.z38; have v38 := L.v38; have t42 := L.t42; have a42 := L.a42; have z42 := L.z42; have v42 := L.v42
  have u42 := run_underlying L.t42
  have hS := (SWR.start hH).alloc hblk (.cells #[.func (.func g) #[] lb, .func (.func sf) #[] sb] (ρ.t 42))
  have HS : Hid _ := hS
  have hH1 : HoldsK enc k (W.alloc (.cells #[.func (.func g) #[] lb, .func (.func sf) #[] sb] (ρ.t 42))) blk off d := hS.held
  have HH1 : Hid _ := hH1
  clear hH hS hH1
  have hbne : W.heap.size ≠ blk := by omega
  go_enter L.f49, BodyGt.n49_ntmps ρ
  go_wp2
  go_loopw [8] (fun vi wr => ∃ (i : Nat) (dk : Array α), vi = .int .i64 i ∧ i ≤ n ∧ BlkIn a b i d dk ∧ PermIn a (b + n) d dk ∧ SWR enc k (W.alloc (.cells #[.func (.func g) #[] lb, .func (.func sf) #[] sb] (ρ.t 42))) blk off dk wr) (fun vi _ => n - (intOf vi).toNat)
  case atStart => exact ⟨0, d, rfl, Nat.zero_le _, blk_zero a b d, permIn_refl d _ _, SWR.start HH1.out⟩
  case round =>
    obtain ⟨i, dk, rfl, hin, hB, hP, hw⟩ := hrel
    have hsk := hB.1
    have hw2 : Hid (SWR enc k (W.alloc (.cells #[.func (.func g) #[] lb, .func (.func sf) #[] sb] (ρ.t 42))) blk off dk wr) := hw
    have c1 : wr.cell? ⟨W.heap.size, 1, none⟩ = some (.func (.func sf) #[] sb) := swr_cell hw hbne (by simp) (by simp)
    have hHr : HoldsK enc k wr blk off dk := hw.held
    have HB : Hid (BlkIn a b i d dk) := hB
    have HP : Hid (PermIn a (b + n) d dk) := hP
    have hx := hswap wr dk hHr hsk (a + i) (b + i)
    have HX : Hid _ := hx
    have HR : Hid _ := hHr
    clear hw hB hP hx hHr
    by_cases hlt : i < n
    · have hs := HX.out (by omega) (by omega)
      rw [show ((a + i : Nat) : Int) = (a : Int) + i by omega, show ((b + i : Nat) : Int) = (b : Int) + i by omega] at hs
      go_wp2
      refine ⟨⟨i + 1, swp dk (a + i) (b + i), by go_num, by omega, blk_succ HB.out (by omega) (by omega), permIn_trans _ _ _ _ _ HP.out (swp_permIn _ _ _ _ _ (by omega) (by omega) (by omega) (by omega) (by omega)), ?_⟩, ?_⟩
      · exact hw2.out.swap hk (a + i) (b + i) (by omega) (by omega)
      · simp [intOf]; omega
    · go_wp2
      go_end0
      have hi : i = n := by omega
      subst hi
      exact ⟨rfl, dk, HB.out, HP.out, swr_trans HS.out hw2.out hsk⟩

set_option maxHeartbeats 2000000 in
set_option maxRecDepth 100000 in
theorem rotate_K (L : LaysGt.n42 P ρ) (hk : ∀ x, (enc x).length = k) (g : Nat) (lb : Array Value) (sf : Nat) (sb : Array Value) (blk off a m b : Nat) (d : Array α) (W : World)
    (hswap : SwapSwapsK P sf sb enc k blk off d.size) (hH : HoldsK enc k W blk off d) (hblk : blk < W.heap.size) (ham : a < m) (hmb : m < b) (hb : b ≤ d.size) (hsz : d.size < 4611686018427387904) :
    Calls P (ρ.f 42) #[.agg #[.func (.func g) #[] lb, .func (.func sf) #[] sb], .int .i64 a, .int .i64 m, .int .i64 b] W fun e w' => e = .returned (.tuple #[]) ∧ ∃ d', RotIn a m b d d' ∧ PermIn a b d d' ∧ SWR enc k W blk off d' w' := by
  have mixed := L.mixed; have t0 := L.t0; have a0 := L.a0; have z0 := L.z0; have v0 := L.v0; have t3 := L.t3; have a3 := L.a3; have z3 := L.z3; have v3 := L.v3; have t4 := L.t4; have a4 := L.a4; have z4 := L.z4; have v4 := L.v4; have t26 := L.t26; have a26 := L.a26; have z26 := L.z26; have v26 := L.v26; have t38 := L.t38; have a38 := L.a38; have z38 := L.z38; have v38 := L.v38; have t42 := L.t42; have a42 := L.a42; have z42 := L.z42; have v42 := L.v42
  have u42 := run_underlying L.t42
  have e49 : ∀ args w, (callFunc (ρ.f 49) args).run P w = .ok (.enter (ρ.f 49) args) w := enters_of L.f49 (by kernel_rfl) rfl
  have L49 : LaysGt.n49 P ρ := { L with }
  have hS := (SWR.start hH).alloc hblk (.cells #[.func (.func g) #[] lb, .func (.func sf) #[] sb] (ρ.t 42))
  have HS : Hid _ := hS
  have hH1 : HoldsK enc k (W.alloc (.cells #[.func (.func g) #[] lb, .func (.func sf) #[] sb] (ρ.t 42))) blk off d := hS.held
  have HH1 : Hid _ := hH1
  clear hH hS hH1
  have hbne : W.heap.size ≠ blk := by omega
  go_enter L.f42, BodyGt.n42_ntmps ρ
  go_wp2
  go_loopw [8, 9] (fun vi vj wr => ∃ (i j : Nat) (dk : Array α), vi = .int .i64 i ∧ vj = .int .i64 j ∧ 0 < i ∧ 0 < j ∧ i + a ≤ m ∧ m + j ≤ b ∧ dk.size = d.size ∧ (∀ d', RotIn (m - i) m (m + j) dk d' → RotIn a m b d d') ∧ PermIn a b d dk ∧ SWR enc k (W.alloc (.cells #[.func (.func g) #[] lb, .func (.func sf) #[] sb] (ρ.t 42))) blk off dk wr) (fun vi vj _ => (intOf vi).toNat + (intOf vj).toNat)
  case atStart => exact ⟨m - a, b - m, d, by congr 1; omega, by congr 1; omega, by omega, by omega, by omega, by omega, rfl, fun d' h => by rw [show m - (m - a) = a by omega, show m + (b - m) = b by omega] at h; exact h, permIn_refl d _ _, SWR.start HH1.out⟩
  case round =>
    obtain ⟨i, j, dk, rfl, rfl, h0i, h0j, hia, hjb, hsk, hB, hP, hw⟩ := hrel
    have hw2 : Hid (SWR enc k (W.alloc (.cells #[.func (.func g) #[] lb, .func (.func sf) #[] sb] (ρ.t 42))) blk off dk wr) := hw
    have c0 : wr.cell? ⟨W.heap.size, 0, none⟩ = some (.func (.func g) #[] lb) := swr_cell hw hbne (by simp) (by simp)
    have c1 : wr.cell? ⟨W.heap.size, 1, none⟩ = some (.func (.func sf) #[] sb) := swr_cell hw hbne (by simp) (by simp)
    have hHr : HoldsK enc k wr blk off dk := hw.held
    have hbr : blk < wr.heap.size := hw.lt (by simp; omega)
    have HB : Hid (∀ d', RotIn (m - i) m (m + j) dk d' → RotIn a m b d d') := hB
    have HP : Hid (PermIn a b d dk) := hP
    have hx := fun a b n => swapRange_K L49 hk g lb sf sb blk off a b n dk wr (by rw [hsk]; exact hswap) hHr hbr
    have HX : Hid _ := hx
    clear hw hB hP hx hHr
    rcases Nat.lt_trichotomy i j with hij | hij | hij
    · have hc := HX.out (m - i) (m + j - i) i (by omega) (by omega) (by omega)
      rw [show ((m - i : Nat) : Int) = (m : Int) - i by omega, show ((m + j - i : Nat) : Int) = (m : Int) + j - i by omega] at hc
      go_wp2_with (go_at_fn (ρ.f 49); refine hc.mono ?_; rintro e w1 ⟨rfl, d1, hB1, hP1, hS1⟩)
      refine ⟨⟨i, j - i, d1, rfl, by congr 1; omega, h0i, by omega, hia, by omega, hB1.1.trans hsk, fun d' h => HB.out d' (rot_right (by omega) hij hB1 h), permIn_trans _ _ _ _ _ HP.out (permIn_mono _ _ _ _ _ _ (by omega) (by omega) (by omega) hP1), ?_⟩, ?_⟩
      · exact swr_trans hw2.out hS1 hB1.1
      · simp [intOf]; omega
    · subst hij
      have hc := HX.out (m - i) m i (by omega) (by omega) (by omega)
      rw [show ((m - i : Nat) : Int) = (m : Int) - i by omega] at hc
      go_wp2_with (go_at_fn (ρ.f 49); refine hc.mono ?_; rintro e w1 ⟨rfl, d1, hB1, hP1, hS1⟩)
      go_end0
      exact ⟨rfl, d1, HB.out d1 (rot_end (by omega) hB1), permIn_trans _ _ _ _ _ HP.out (permIn_mono _ _ _ _ _ _ (by omega) (by omega) (by omega) hP1), swr_trans HS.out (swr_trans hw2.out hS1 hB1.1) (hB1.1.trans hsk)⟩
    · have hc := HX.out (m - i) m j (by omega) (by omega) (by omega)
      rw [show ((m - i : Nat) : Int) = (m : Int) - i by omega] at hc
      go_wp2_with (go_at_fn (ρ.f 49); refine hc.mono ?_; rintro e w1 ⟨rfl, d1, hB1, hP1, hS1⟩)
      refine ⟨⟨i - j, j, d1, by congr 1; omega, rfl, by omega, h0j, by omega, hjb, hB1.1.trans hsk, fun d' h => HB.out d' (rot_left (by omega) hij hB1 h), permIn_trans _ _ _ _ _ HP.out (permIn_mono _ _ _ _ _ _ (by omega) (by omega) (by omega) hP1), ?_⟩, ?_⟩
      · exact swr_trans hw2.out hS1 hB1.1
      · simp [intOf]; omega
end Go.Proofs.Ytmchkhjchpnmaaa
