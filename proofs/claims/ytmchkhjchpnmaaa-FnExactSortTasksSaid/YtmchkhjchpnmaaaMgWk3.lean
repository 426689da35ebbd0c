/- sort.symMerge_func at elements of k cells: two sorted ranges become one. -/
import Derived.Test.YtmchkhjchpnmaaaMgWk2
namespace Go.Proofs.Ytmchkhjchpnmaaa
open Go.Proofs Go.Shelf Go.RowKit Go.Lib Go.Sort
set_option linter.unusedVariables false
set_option linter.unusedSectionVars false
variable {P : Program} {ρ : Ren} {α : Type} [Inhabited α] {enc : α → List Value} {k : Nat} {lt : α → α → Bool}

/-- how far the search of a middle has come -/
structure Srch (lt : α → α → Bool) (n s0 r0 s r : Nat) (d : Array α) : Prop where
  lo : s0 ≤ s
  le : s ≤ r
  hi : r ≤ r0
  low : s = s0 ∨ (s0 < s ∧ lt d[n - s]! d[s - 1]! = false)
  high : r = r0 ∨ (r < r0 ∧ lt d[n - 1 - r]! d[r]! = true)
theorem Srch.start {lt : α → α → Bool} {n s0 r0 : Nat} {d : Array α} (h : s0 ≤ r0) : Srch lt n s0 r0 s0 r0 d := ⟨Nat.le_refl _, h, Nat.le_refl _, Or.inl rfl, Or.inl rfl⟩
theorem Srch.up {lt : α → α → Bool} {n s0 r0 s r c : Nat} {d : Array α} (h : Srch lt n s0 r0 s r d) (h1 : s ≤ c) (h2 : c < r) (h3 : lt d[n - 1 - c]! d[c]! = false) : Srch lt n s0 r0 (c + 1) r d := by
  have := h.lo; have := h.hi
  exact ⟨by omega, by omega, h.hi, Or.inr ⟨by omega, by rw [show n - (c + 1) = n - 1 - c by omega, Nat.add_sub_cancel]; exact h3⟩, h.high⟩
theorem Srch.down {lt : α → α → Bool} {n s0 r0 s r c : Nat} {d : Array α} (h : Srch lt n s0 r0 s r d) (h1 : s ≤ c) (h2 : c < r) (h3 : lt d[n - 1 - c]! d[c]! = true) : Srch lt n s0 r0 s c d := by
  have := h.lo; have := h.hi
  exact ⟨h.lo, h1, by omega, h.low, Or.inr ⟨by omega, h3⟩⟩
theorem Srch.mid_far {lt : α → α → Bool} {a m b mid s : Nat} {d : Array α} (h : Srch lt (mid + m) (mid + m - b) mid s s d) (ha : a < m) (hb : m < b) (hm : mid = (a + b) / 2) (hmm : mid < m) : Mid lt a m b mid s d := by
  have h1 := h.lo; have h2 := h.hi
  refine ⟨by omega, by omega, by omega, by omega, fun c1 c2 => ?_, fun c1 c2 => ?_⟩
  · rcases h.low with e | ⟨_, e⟩
    · omega
    · exact e
  · rcases h.high with e | ⟨_, e⟩
    · omega
    · rw [show mid + m - s - 1 = mid + m - 1 - s by omega]; exact e
theorem Srch.mid_near {lt : α → α → Bool} {a m b mid s : Nat} {d : Array α} (h : Srch lt (mid + m) a m s s d) (ha : a < m) (hb : m < b) (hm : mid = (a + b) / 2) (hmm : m ≤ mid) : Mid lt a m b mid s d := by
  have h1 := h.lo; have h2 := h.hi
  refine ⟨by omega, by omega, by omega, by omega, fun c1 c2 => ?_, fun c1 c2 => ?_⟩
  · rcases h.low with e | ⟨_, e⟩
    · omega
    · exact e
  · rcases h.high with e | ⟨_, e⟩
    · omega
    · rw [show mid + m - s - 1 = mid + m - 1 - s by omega]; exact e

set_option maxHeartbeats 8000000 in
set_option maxRecDepth 100000 in
theorem symMerge_mid (L : LaysGt.n30 P ρ) (hO : SWO lt) (hk : ∀ x, (enc x).length = k) (g : Nat) (lb : Array Value) (sf : Nat) (sb : Array Value) (blk off a m b : Nat) (d : Array α) (W : World)
    (eg : ∀ args w, (callFunc g args).run P w = .ok (.enter g args) w) (hless : LessG P g lb enc k lt blk off d.size W)
    (hswap : SwapSwapsK P sf sb enc k blk off d.size) (hH : HoldsK enc k W blk off d) (hblk : blk < W.heap.size) (ham : a + 1 < m) (hmb : m + 1 < b) (hb : b ≤ d.size) (hsz : d.size < 4611686018427387904) (hs1 : SortedIn lt a m d) (hs2 : SortedIn lt m b d)
    (IH : ∀ (a' m' b' : Nat) (dx : Array α) (wx : World), b' - a' < b - a → SWR enc k W blk off dx wx → dx.size = d.size → a' < m' → m' < b' → b' ≤ d.size → SortedIn lt a' m' dx → SortedIn lt m' b' dx →
      Calls P (ρ.f 30) #[.agg #[.func (.func g) #[] lb, .func (.func sf) #[] sb], .int .i64 a', .int .i64 m', .int .i64 b'] wx fun e w' => e = .returned (.tuple #[]) ∧ ∃ d', SortedIn lt a' b' d' ∧ PermIn a' b' dx d' ∧ SWR enc k wx blk off d' w') :
    Calls P (ρ.f 30) #[.agg #[.func (.func g) #[] lb, .func (.func sf) #[] sb], .int .i64 a, .int .i64 m, .int .i64 b] W fun e w' => e = .returned (.tuple #[]) ∧ ∃ d', SortedIn lt a b d' ∧ PermIn a b d d' ∧ SWR enc k W blk off d' w' := by
  have mixed := L.mixed; have t0 := L.t0; have a0 := L.a0; have z0 := L.z0; have v0 := L.v0; have t3 := L.t3; have a3 := L.a3; have z3 := L.z3; have v3 := L.v3; have t4 := L.t4; have a4 := L.a4; have z4 := L.z4; have v4 := L.v4; have t26 := L.t26; have a26 := L.a26; have z26 := L.z26; have v26 := L.v26; have t38 := L.t38; have a38 := L.a38; have z38 := L.z38; have v38 := L.v38; have t42 := L.t42; have a42 := L.a42; have z42 := L.z42; have v42 := L.v42; have t47 := L.t47; have a47 := L.a47; have z47 := L.z47; have v47 := L.v47
  have u42 := run_underlying L.t42
  have e30 : ∀ args w, (callFunc (ρ.f 30) args).run P w = .ok (.enter (ρ.f 30) args) w := enters_of L.f30 (by kernel_rfl) rfl
  have e42 : ∀ args w, (callFunc (ρ.f 42) args).run P w = .ok (.enter (ρ.f 42) args) w := enters_of L.f42 (by kernel_rfl) rfl
  have L42 : LaysGt.n42 P ρ := { L with }
  have hS := (SWR.start hH).alloc hblk (.cells #[.func (.func g) #[] lb, .func (.func sf) #[] sb] (ρ.t 42))
  have HS : Hid _ := hS
  have hH1 : HoldsK enc k (W.alloc (.cells #[.func (.func g) #[] lb, .func (.func sf) #[] sb] (ρ.t 42))) blk off d := hS.held
  have HH1 : Hid _ := hH1
  have HL : Hid (LessG P g lb enc k lt blk off d.size W) := hless
  have HO : Hid (SWO lt) := hO
  have HS1 : Hid (SortedIn lt a m d) := hs1
  have HS2 : Hid (SortedIn lt m b d) := hs2
  have HIH : Hid _ := IH
  clear hH hS hH1 hless hO hs1 hs2 IH
  have hbne : W.heap.size ≠ blk := by omega
  go_enter L.f30, BodyGt.n30_ntmps ρ
  have hg0 : ¬ (m : Int) - a = 1 := by omega
  have hg : ¬ (b : Int) - m = 1 := by omega
  have HM1 : Hid (a + 1 < m) := ham
  have HM2 : Hid (m + 1 < b) := hmb
  obtain ⟨mid, hmid⟩ : ∃ mid : Nat, mid = (a + b) / 2 := ⟨_, rfl⟩
  have HMID : Hid (mid = (a + b) / 2) := hmid
  have hmidz : ((a : Int) + b) / 2 = mid := by omega
  have hmm1 : a < mid := by omega
  have hmm2 : mid < b := by omega
  clear hmid
  by_cases hmm : mid < m
  · have hmmz : (mid : Int) < m := by omega
    have hpz : ((mid + m - b : Nat) : Int) = (mid : Int) + m - b := by omega
    go_wp2_with fail
    (try rw [show ((m : Int) - a == 1) = false from by simp [hg0]])
    (try rw [show ((b : Int) - m == 1) = false from by simp [hg]])
    go_loopw [18, 19] (fun vi vj wr => ∃ (s r : Nat), vi = .int .i64 s ∧ vj = .int .i64 r ∧ Srch lt (mid + m) (mid + m - b) mid s r d ∧ SWR enc k (W.alloc (.cells #[.func (.func g) #[] lb, .func (.func sf) #[] sb] (ρ.t 42))) blk off d wr) (fun vi vj _ => (intOf vj).toNat - (intOf vi).toNat)
    case atStart => exact ⟨(mid + m - b), mid, by rw [hpz], rfl, Srch.start (by omega), SWR.start HH1.out⟩
    case round =>
      obtain ⟨s, r, rfl, rfl, hsr, hw⟩ := hrel
      have b1 := hsr.lo; have b2 := hsr.le; have b3 := hsr.hi
      have HSR : Hid _ := hsr
      have hw0 : SWR enc k W blk off d wr := swr_trans HS.out hw rfl
      have c0 : wr.cell? ⟨W.heap.size, 0, none⟩ = some (.func (.func g) #[] lb) := swr_cell hw hbne (by simp) (by simp)
      have c1 : wr.cell? ⟨W.heap.size, 1, none⟩ = some (.func (.func sf) #[] sb) := swr_cell hw hbne (by simp) (by simp)
      have HW1 : Hid _ := hw
      have HW0 : Hid _ := hw0
      clear hsr hw hw0
      by_cases hlt : s < r
      · obtain ⟨c, hc⟩ : ∃ c : Nat, c = (s + r) / 2 := ⟨_, rfl⟩
        have hcz : ((s : Int) + r) / 2 = c := by omega
        have hc1 : s ≤ c := by omega
        have hc2 : c < r := by omega
        have hc3 : mid + m - 1 - c < b := by have := HMID.out; omega
        clear hc
        have hl := SWR.less HW0.out HL.out rfl (mid + m - 1 - c) c (by omega) (by omega)
        rw [show ((mid + m - 1 - c : Nat) : Int) = (mid : Int) + m - 1 - c by omega] at hl
        cases hlv : lt d[mid + m - 1 - c]! d[c]! with
        | false =>
          rw [hlv] at hl
          go_wp2_with (go_at_fn g; refine hl.mono ?_; rintro ee w' ⟨rfl, hbw⟩)
          go_roundw
          case rel => exact ⟨c + 1, r, by go_num, rfl, HSR.out.up hc1 hc2 hlv, SWR.below HW1.out (by simp; omega) hbw⟩
          case measure => simp [intOf]; omega
        | true =>
          rw [hlv] at hl
          go_wp2_with (go_at_fn g; refine hl.mono ?_; rintro ee w' ⟨rfl, hbw⟩)
          go_roundw
          case rel => exact ⟨s, c, rfl, rfl, HSR.out.down hc1 hc2 hlv, SWR.below HW1.out (by simp; omega) hbw⟩
          case measure => simp [intOf]; omega
      · obtain rfl : s = r := by omega
        have hmd : Mid lt a m b mid s d := Srch.mid_far HSR.out (by have := HM1.out; omega) (by have := HM2.out; omega) HMID.out (by omega)
        have b4 := hmd.has; have b5 := hmd.hsm; have b6 := hmd.hsd; have b7 := hmd.heb
        obtain ⟨e, he⟩ : ∃ e : Nat, e = mid + m - s := ⟨_, rfl⟩
        have hez : (mid : Int) + m - s = e := by omega
        have hhf : ∀ d1, RotIn s m e d d1 → Halves lt a s mid e b d1 := fun d1 hr => by rw [he] at hr ⊢; exact halves HO.out hmd (by omega) (by omega) (by omega) HS1.out HS2.out hr
        have HHF : Hid _ := hhf
        have he2 : e + s = mid + m := by omega
        clear hmd hhf he
        by_cases k1 : s < mid
        · by_cases k2 : a < s
          · by_cases k3 : e < b
            · have f0 : (s : Int) < m := by omega
              have f1 : (m : Int) < e := by omega
              have f2 : (a : Int) < s := by omega
              have f3 : (s : Int) < mid := by omega
              have f4 : (mid : Int) < e := by omega
              have f5 : (e : Int) < b := by omega
              have hR := rotate_K L42 hk g lb sf sb blk off s m e d wr hswap HW1.out.held (HW1.out.lt (by simp; omega)) (by omega) (by omega) (by omega) hsz
              go_wp2_with (first | (go_at_fn (ρ.f 42); refine hR.mono ?_; rintro ee w1 ⟨rfl, d1, hB1, hP1, hS1⟩; have hs1 : d1.size = d.size := hB1.1; have hw1 : SWR enc k (W.alloc (.cells #[.func (.func g) #[] lb, .func (.func sf) #[] sb] (ρ.t 42))) blk off d1 w1 := swr_trans HW1.out hS1 hB1.1; have c0w1 : w1.cell? ⟨W.heap.size, 0, none⟩ = some (.func (.func g) #[] lb) := swr_cell hw1 hbne (by simp) (by simp); have c1w1 : w1.cell? ⟨W.heap.size, 1, none⟩ = some (.func (.func sf) #[] sb) := swr_cell hw1 hbne (by simp) (by simp); have HWA : Hid _ := hw1; have HHV : Hid (Halves lt a s mid e b d1) := HHF.out d1 hB1; have HPA : Hid (PermIn a b d d1) := permIn_mono _ _ _ _ _ _ (by omega) (by omega) (by omega) hP1; clear hw1 hP1 hB1 hS1) | (go_at_fn (ρ.f 30); refine (HIH.out a s mid d1 w1 (by omega) (swr_trans HS.out HWA.out hs1) hs1 (by omega) (by omega) (by omega) HHV.out.q1 HHV.out.q2).mono ?_; rintro ee w2 ⟨rfl, d2, hq2, hP2, hS2⟩; have hs2 : d2.size = d.size := hP2.1.trans hs1; have hw2 : SWR enc k (W.alloc (.cells #[.func (.func g) #[] lb, .func (.func sf) #[] sb] (ρ.t 42))) blk off d2 w2 := swr_trans HWA.out hS2 hP2.1; have c0w2 : w2.cell? ⟨W.heap.size, 0, none⟩ = some (.func (.func g) #[] lb) := swr_cell hw2 hbne (by simp) (by simp); have c1w2 : w2.cell? ⟨W.heap.size, 1, none⟩ = some (.func (.func sf) #[] sb) := swr_cell hw2 hbne (by simp) (by simp); have HWB : Hid _ := hw2; have HPB : Hid (PermIn a mid d1 d2) := hP2; have HQB : Hid (SortedIn lt a mid d2) := hq2; clear hw2 hP2 hS2 hq2) | (go_at_fn (ρ.f 30); refine (HIH.out mid e b d2 w2 (by omega) (swr_trans HS.out HWB.out hs2) hs2 (by omega) (by omega) (by omega) (permIn_sorted_other HPB.out HHV.out.q3 (Or.inr (Nat.le_refl _))) (permIn_sorted_other HPB.out HHV.out.q4 (Or.inr (by omega)))).mono ?_; rintro ee w3 ⟨rfl, d3, hq3, hP3, hS3⟩; have hs3 : d3.size = d.size := hP3.1.trans hs2; have hw3 : SWR enc k (W.alloc (.cells #[.func (.func g) #[] lb, .func (.func sf) #[] sb] (ρ.t 42))) blk off d3 w3 := swr_trans HWB.out hS3 hP3.1; have HWC : Hid _ := hw3; have HPC : Hid (PermIn mid b d2 d3) := hP3; have HQC : Hid (SortedIn lt mid b d3) := hq3; clear hw3 hP3 hS3 hq3))
              go_end0
              have qB : SortedIn lt a mid d2 := HQB.out
              have qC : SortedIn lt mid b d3 := HQC.out
              exact ⟨rfl, d3, whole (by rw [hs1]; exact hb) (by omega) (by omega) HHV.out.cross HPB.out HPC.out qB qC, permIn_trans _ _ _ _ _ HPA.out (permIn_trans _ _ _ _ _ (permIn_mono _ _ _ _ _ _ (by omega) (by omega) (by omega) HPB.out) (permIn_mono _ _ _ _ _ _ (by omega) (by omega) (by omega) HPC.out)), swr_trans HS.out HWC.out hs3⟩
            · have f0 : (s : Int) < m := by omega
              have f1 : (m : Int) < e := by omega
              have f2 : (a : Int) < s := by omega
              have f3 : (s : Int) < mid := by omega
              have f4 : (mid : Int) < e := by omega
              have f5 : ¬ (e : Int) < b := by omega
              have hR := rotate_K L42 hk g lb sf sb blk off s m e d wr hswap HW1.out.held (HW1.out.lt (by simp; omega)) (by omega) (by omega) (by omega) hsz
              go_wp2_with (first | (go_at_fn (ρ.f 42); refine hR.mono ?_; rintro ee w1 ⟨rfl, d1, hB1, hP1, hS1⟩; have hs1 : d1.size = d.size := hB1.1; have hw1 : SWR enc k (W.alloc (.cells #[.func (.func g) #[] lb, .func (.func sf) #[] sb] (ρ.t 42))) blk off d1 w1 := swr_trans HW1.out hS1 hB1.1; have c0w1 : w1.cell? ⟨W.heap.size, 0, none⟩ = some (.func (.func g) #[] lb) := swr_cell hw1 hbne (by simp) (by simp); have c1w1 : w1.cell? ⟨W.heap.size, 1, none⟩ = some (.func (.func sf) #[] sb) := swr_cell hw1 hbne (by simp) (by simp); have HWA : Hid _ := hw1; have HHV : Hid (Halves lt a s mid e b d1) := HHF.out d1 hB1; have HPA : Hid (PermIn a b d d1) := permIn_mono _ _ _ _ _ _ (by omega) (by omega) (by omega) hP1; clear hw1 hP1 hB1 hS1) | (go_at_fn (ρ.f 30); refine (HIH.out a s mid d1 w1 (by omega) (swr_trans HS.out HWA.out hs1) hs1 (by omega) (by omega) (by omega) HHV.out.q1 HHV.out.q2).mono ?_; rintro ee w2 ⟨rfl, d2, hq2, hP2, hS2⟩; have hs2 : d2.size = d.size := hP2.1.trans hs1; have hw2 : SWR enc k (W.alloc (.cells #[.func (.func g) #[] lb, .func (.func sf) #[] sb] (ρ.t 42))) blk off d2 w2 := swr_trans HWA.out hS2 hP2.1; have c0w2 : w2.cell? ⟨W.heap.size, 0, none⟩ = some (.func (.func g) #[] lb) := swr_cell hw2 hbne (by simp) (by simp); have c1w2 : w2.cell? ⟨W.heap.size, 1, none⟩ = some (.func (.func sf) #[] sb) := swr_cell hw2 hbne (by simp) (by simp); have HWB : Hid _ := hw2; have HPB : Hid (PermIn a mid d1 d2) := hP2; have HQB : Hid (SortedIn lt a mid d2) := hq2; clear hw2 hP2 hS2 hq2))
              go_end0
              have qB : SortedIn lt a mid d2 := HQB.out
              have qC : SortedIn lt mid b d2 := permIn_sorted_other HPB.out (fun x y hx hxy hy => HHV.out.q3 x y (by omega) hxy (by omega)) (Or.inr (Nat.le_refl _))
              exact ⟨rfl, d2, whole (by rw [hs1]; exact hb) (by omega) (by omega) HHV.out.cross HPB.out (permIn_refl d2 mid b) qB qC, permIn_trans _ _ _ _ _ HPA.out (permIn_trans _ _ _ _ _ (permIn_mono _ _ _ _ _ _ (by omega) (by omega) (by omega) HPB.out) (permIn_mono _ _ _ _ _ _ (by omega) (by omega) (by omega) (permIn_refl d2 mid b))), swr_trans HS.out HWB.out hs2⟩
          · by_cases k3 : e < b
            · have f0 : (s : Int) < m := by omega
              have f1 : (m : Int) < e := by omega
              have f2 : ¬ (a : Int) < s := by omega
              have f3 : (s : Int) < mid := by omega
              have f4 : (mid : Int) < e := by omega
              have f5 : (e : Int) < b := by omega
              have hR := rotate_K L42 hk g lb sf sb blk off s m e d wr hswap HW1.out.held (HW1.out.lt (by simp; omega)) (by omega) (by omega) (by omega) hsz
              go_wp2_with (first | (go_at_fn (ρ.f 42); refine hR.mono ?_; rintro ee w1 ⟨rfl, d1, hB1, hP1, hS1⟩; have hs1 : d1.size = d.size := hB1.1; have hw1 : SWR enc k (W.alloc (.cells #[.func (.func g) #[] lb, .func (.func sf) #[] sb] (ρ.t 42))) blk off d1 w1 := swr_trans HW1.out hS1 hB1.1; have c0w1 : w1.cell? ⟨W.heap.size, 0, none⟩ = some (.func (.func g) #[] lb) := swr_cell hw1 hbne (by simp) (by simp); have c1w1 : w1.cell? ⟨W.heap.size, 1, none⟩ = some (.func (.func sf) #[] sb) := swr_cell hw1 hbne (by simp) (by simp); have HWA : Hid _ := hw1; have HHV : Hid (Halves lt a s mid e b d1) := HHF.out d1 hB1; have HPA : Hid (PermIn a b d d1) := permIn_mono _ _ _ _ _ _ (by omega) (by omega) (by omega) hP1; clear hw1 hP1 hB1 hS1) | (go_at_fn (ρ.f 30); refine (HIH.out mid e b d1 w1 (by omega) (swr_trans HS.out HWA.out hs1) hs1 (by omega) (by omega) (by omega) (permIn_sorted_other (permIn_refl d1 a mid) HHV.out.q3 (Or.inr (Nat.le_refl _))) (permIn_sorted_other (permIn_refl d1 a mid) HHV.out.q4 (Or.inr (by omega)))).mono ?_; rintro ee w3 ⟨rfl, d3, hq3, hP3, hS3⟩; have hs3 : d3.size = d.size := hP3.1.trans hs1; have hw3 : SWR enc k (W.alloc (.cells #[.func (.func g) #[] lb, .func (.func sf) #[] sb] (ρ.t 42))) blk off d3 w3 := swr_trans HWA.out hS3 hP3.1; have HWC : Hid _ := hw3; have HPC : Hid (PermIn mid b d1 d3) := hP3; have HQC : Hid (SortedIn lt mid b d3) := hq3; clear hw3 hP3 hS3 hq3))
              go_end0
              have qB : SortedIn lt a mid d1 := fun x y hx hxy hy => HHV.out.q2 x y (by omega) hxy (by omega)
              have qC : SortedIn lt mid b d3 := HQC.out
              exact ⟨rfl, d3, whole (by rw [hs1]; exact hb) (by omega) (by omega) HHV.out.cross (permIn_refl d1 a mid) HPC.out qB qC, permIn_trans _ _ _ _ _ HPA.out (permIn_trans _ _ _ _ _ (permIn_mono _ _ _ _ _ _ (by omega) (by omega) (by omega) (permIn_refl d1 a mid)) (permIn_mono _ _ _ _ _ _ (by omega) (by omega) (by omega) HPC.out)), swr_trans HS.out HWC.out hs3⟩
            · have f0 : (s : Int) < m := by omega
              have f1 : (m : Int) < e := by omega
              have f2 : ¬ (a : Int) < s := by omega
              have f3 : (s : Int) < mid := by omega
              have f4 : (mid : Int) < e := by omega
              have f5 : ¬ (e : Int) < b := by omega
              have hR := rotate_K L42 hk g lb sf sb blk off s m e d wr hswap HW1.out.held (HW1.out.lt (by simp; omega)) (by omega) (by omega) (by omega) hsz
              go_wp2_with (go_at_fn (ρ.f 42); refine hR.mono ?_; rintro ee w1 ⟨rfl, d1, hB1, hP1, hS1⟩; have hs1 : d1.size = d.size := hB1.1; have hw1 : SWR enc k (W.alloc (.cells #[.func (.func g) #[] lb, .func (.func sf) #[] sb] (ρ.t 42))) blk off d1 w1 := swr_trans HW1.out hS1 hB1.1; have c0w1 : w1.cell? ⟨W.heap.size, 0, none⟩ = some (.func (.func g) #[] lb) := swr_cell hw1 hbne (by simp) (by simp); have c1w1 : w1.cell? ⟨W.heap.size, 1, none⟩ = some (.func (.func sf) #[] sb) := swr_cell hw1 hbne (by simp) (by simp); have HWA : Hid _ := hw1; have HHV : Hid (Halves lt a s mid e b d1) := HHF.out d1 hB1; have HPA : Hid (PermIn a b d d1) := permIn_mono _ _ _ _ _ _ (by omega) (by omega) (by omega) hP1; clear hw1 hP1 hB1 hS1)
              go_end0
              have qB : SortedIn lt a mid d1 := fun x y hx hxy hy => HHV.out.q2 x y (by omega) hxy (by omega)
              have qC : SortedIn lt mid b d1 := permIn_sorted_other (permIn_refl d1 a mid) (fun x y hx hxy hy => HHV.out.q3 x y (by omega) hxy (by omega)) (Or.inr (Nat.le_refl _))
              exact ⟨rfl, d1, whole (by rw [hs1]; exact hb) (by omega) (by omega) HHV.out.cross (permIn_refl d1 a mid) (permIn_refl d1 mid b) qB qC, permIn_trans _ _ _ _ _ HPA.out (permIn_trans _ _ _ _ _ (permIn_mono _ _ _ _ _ _ (by omega) (by omega) (by omega) (permIn_refl d1 a mid)) (permIn_mono _ _ _ _ _ _ (by omega) (by omega) (by omega) (permIn_refl d1 mid b))), swr_trans HS.out HWA.out hs1⟩
        · have f0 : (s : Int) < m := by omega
          have f1 : ¬ (m : Int) < e := by omega
          have f2 : (a : Int) < s := by omega
          have f3 : ¬ (s : Int) < mid := by omega
          have f4 : (mid : Int) < e := by omega
          have f5 : (e : Int) < b := by omega
          obtain ⟨d1, hd1⟩ : ∃ d1, d1 = d := ⟨_, rfl⟩
          obtain ⟨w1, hw1⟩ : ∃ w1, w1 = wr := ⟨_, rfl⟩
          have hs1 : d1.size = d.size := by rw [hd1]
          have HWA : Hid (SWR enc k (W.alloc (.cells #[.func (.func g) #[] lb, .func (.func sf) #[] sb] (ρ.t 42))) blk off d1 w1) := by rw [hd1, hw1]; exact HW1.out
          have HHV : Hid (Halves lt a s mid e b d1) := by rw [hd1]; exact HHF.out d (by rw [show m = e by omega]; exact rot_none s e d)
          have HPA : Hid (PermIn a b d d1) := by rw [hd1]; exact permIn_refl d _ _
          rw [← hw1] at c0 c1
          rw [← hw1]
          clear hd1 hw1
          go_wp2_with (go_at_fn (ρ.f 30); refine (HIH.out mid e b d1 w1 (by omega) (swr_trans HS.out HWA.out hs1) hs1 (by omega) (by omega) (by omega) (permIn_sorted_other (permIn_refl d1 a mid) HHV.out.q3 (Or.inr (Nat.le_refl _))) (permIn_sorted_other (permIn_refl d1 a mid) HHV.out.q4 (Or.inr (by omega)))).mono ?_; rintro ee w3 ⟨rfl, d3, hq3, hP3, hS3⟩; have hs3 : d3.size = d.size := hP3.1.trans hs1; have hw3 : SWR enc k (W.alloc (.cells #[.func (.func g) #[] lb, .func (.func sf) #[] sb] (ρ.t 42))) blk off d3 w3 := swr_trans HWA.out hS3 hP3.1; have HWC : Hid _ := hw3; have HPC : Hid (PermIn mid b d1 d3) := hP3; have HQC : Hid (SortedIn lt mid b d3) := hq3; clear hw3 hP3 hS3 hq3)
          go_end0
          have qB : SortedIn lt a mid d1 := fun x y hx hxy hy => HHV.out.q1 x y (by omega) hxy (by omega)
          have qC : SortedIn lt mid b d3 := HQC.out
          exact ⟨rfl, d3, whole (by rw [hs1]; exact hb) (by omega) (by omega) HHV.out.cross (permIn_refl d1 a mid) HPC.out qB qC, permIn_trans _ _ _ _ _ HPA.out (permIn_trans _ _ _ _ _ (permIn_mono _ _ _ _ _ _ (by omega) (by omega) (by omega) (permIn_refl d1 a mid)) (permIn_mono _ _ _ _ _ _ (by omega) (by omega) (by omega) HPC.out)), swr_trans HS.out HWC.out hs3⟩
  · have hmmz : ¬ (mid : Int) < m := by omega
    have hpz : True := by trivial
    go_wp2_with fail
    (try rw [show ((m : Int) - a == 1) = false from by simp [hg0]])
    (try rw [show ((b : Int) - m == 1) = false from by simp [hg]])
    go_loopw [18, 19] (fun vi vj wr => ∃ (s r : Nat), vi = .int .i64 s ∧ vj = .int .i64 r ∧ Srch lt (mid + m) a m s r d ∧ SWR enc k (W.alloc (.cells #[.func (.func g) #[] lb, .func (.func sf) #[] sb] (ρ.t 42))) blk off d wr) (fun vi vj _ => (intOf vj).toNat - (intOf vi).toNat)
    case atStart => exact ⟨a, m, rfl, rfl, Srch.start (by omega), SWR.start HH1.out⟩
    case round =>
      obtain ⟨s, r, rfl, rfl, hsr, hw⟩ := hrel
      have b1 := hsr.lo; have b2 := hsr.le; have b3 := hsr.hi
      have HSR : Hid _ := hsr
      have hw0 : SWR enc k W blk off d wr := swr_trans HS.out hw rfl
      have c0 : wr.cell? ⟨W.heap.size, 0, none⟩ = some (.func (.func g) #[] lb) := swr_cell hw hbne (by simp) (by simp)
      have c1 : wr.cell? ⟨W.heap.size, 1, none⟩ = some (.func (.func sf) #[] sb) := swr_cell hw hbne (by simp) (by simp)
      have HW1 : Hid _ := hw
      have HW0 : Hid _ := hw0
      clear hsr hw hw0
      by_cases hlt : s < r
      · obtain ⟨c, hc⟩ : ∃ c : Nat, c = (s + r) / 2 := ⟨_, rfl⟩
        have hcz : ((s : Int) + r) / 2 = c := by omega
        have hc1 : s ≤ c := by omega
        have hc2 : c < r := by omega
        have hc3 : mid + m - 1 - c < b := by have := HMID.out; omega
        clear hc
        have hl := SWR.less HW0.out HL.out rfl (mid + m - 1 - c) c (by omega) (by omega)
        rw [show ((mid + m - 1 - c : Nat) : Int) = (mid : Int) + m - 1 - c by omega] at hl
        cases hlv : lt d[mid + m - 1 - c]! d[c]! with
        | false =>
          rw [hlv] at hl
          go_wp2_with (go_at_fn g; refine hl.mono ?_; rintro ee w' ⟨rfl, hbw⟩)
          go_roundw
          case rel => exact ⟨c + 1, r, by go_num, rfl, HSR.out.up hc1 hc2 hlv, SWR.below HW1.out (by simp; omega) hbw⟩
          case measure => simp [intOf]; omega
        | true =>
          rw [hlv] at hl
          go_wp2_with (go_at_fn g; refine hl.mono ?_; rintro ee w' ⟨rfl, hbw⟩)
          go_roundw
          case rel => exact ⟨s, c, rfl, rfl, HSR.out.down hc1 hc2 hlv, SWR.below HW1.out (by simp; omega) hbw⟩
          case measure => simp [intOf]; omega
      · obtain rfl : s = r := by omega
        have hmd : Mid lt a m b mid s d := Srch.mid_near HSR.out (by have := HM1.out; omega) (by have := HM2.out; omega) HMID.out (by omega)
        have b4 := hmd.has; have b5 := hmd.hsm; have b6 := hmd.hsd; have b7 := hmd.heb
        obtain ⟨e, he⟩ : ∃ e : Nat, e = mid + m - s := ⟨_, rfl⟩
        have hez : (mid : Int) + m - s = e := by omega
        have hhf : ∀ d1, RotIn s m e d d1 → Halves lt a s mid e b d1 := fun d1 hr => by rw [he] at hr ⊢; exact halves HO.out hmd (by omega) (by omega) (by omega) HS1.out HS2.out hr
        have HHF : Hid _ := hhf
        have he2 : e + s = mid + m := by omega
        clear hmd hhf he
        by_cases k1 : s < mid
        · by_cases k4 : s < m
          · by_cases k2 : a < s
            · by_cases k3 : e < b
              · have f0 : (s : Int) < m := by omega
                have f1 : (m : Int) < e := by omega
                have f2 : (a : Int) < s := by omega
                have f3 : (s : Int) < mid := by omega
                have f4 : (mid : Int) < e := by omega
                have f5 : (e : Int) < b := by omega
                have hR := rotate_K L42 hk g lb sf sb blk off s m e d wr hswap HW1.out.held (HW1.out.lt (by simp; omega)) (by omega) (by omega) (by omega) hsz
                go_wp2_with (first | (go_at_fn (ρ.f 42); refine hR.mono ?_; rintro ee w1 ⟨rfl, d1, hB1, hP1, hS1⟩; have hs1 : d1.size = d.size := hB1.1; have hw1 : SWR enc k (W.alloc (.cells #[.func (.func g) #[] lb, .func (.func sf) #[] sb] (ρ.t 42))) blk off d1 w1 := swr_trans HW1.out hS1 hB1.1; have c0w1 : w1.cell? ⟨W.heap.size, 0, none⟩ = some (.func (.func g) #[] lb) := swr_cell hw1 hbne (by simp) (by simp); have c1w1 : w1.cell? ⟨W.heap.size, 1, none⟩ = some (.func (.func sf) #[] sb) := swr_cell hw1 hbne (by simp) (by simp); have HWA : Hid _ := hw1; have HHV : Hid (Halves lt a s mid e b d1) := HHF.out d1 hB1; have HPA : Hid (PermIn a b d d1) := permIn_mono _ _ _ _ _ _ (by omega) (by omega) (by omega) hP1; clear hw1 hP1 hB1 hS1) | (go_at_fn (ρ.f 30); refine (HIH.out a s mid d1 w1 (by omega) (swr_trans HS.out HWA.out hs1) hs1 (by omega) (by omega) (by omega) HHV.out.q1 HHV.out.q2).mono ?_; rintro ee w2 ⟨rfl, d2, hq2, hP2, hS2⟩; have hs2 : d2.size = d.size := hP2.1.trans hs1; have hw2 : SWR enc k (W.alloc (.cells #[.func (.func g) #[] lb, .func (.func sf) #[] sb] (ρ.t 42))) blk off d2 w2 := swr_trans HWA.out hS2 hP2.1; have c0w2 : w2.cell? ⟨W.heap.size, 0, none⟩ = some (.func (.func g) #[] lb) := swr_cell hw2 hbne (by simp) (by simp); have c1w2 : w2.cell? ⟨W.heap.size, 1, none⟩ = some (.func (.func sf) #[] sb) := swr_cell hw2 hbne (by simp) (by simp); have HWB : Hid _ := hw2; have HPB : Hid (PermIn a mid d1 d2) := hP2; have HQB : Hid (SortedIn lt a mid d2) := hq2; clear hw2 hP2 hS2 hq2) | (go_at_fn (ρ.f 30); refine (HIH.out mid e b d2 w2 (by omega) (swr_trans HS.out HWB.out hs2) hs2 (by omega) (by omega) (by omega) (permIn_sorted_other HPB.out HHV.out.q3 (Or.inr (Nat.le_refl _))) (permIn_sorted_other HPB.out HHV.out.q4 (Or.inr (by omega)))).mono ?_; rintro ee w3 ⟨rfl, d3, hq3, hP3, hS3⟩; have hs3 : d3.size = d.size := hP3.1.trans hs2; have hw3 : SWR enc k (W.alloc (.cells #[.func (.func g) #[] lb, .func (.func sf) #[] sb] (ρ.t 42))) blk off d3 w3 := swr_trans HWB.out hS3 hP3.1; have HWC : Hid _ := hw3; have HPC : Hid (PermIn mid b d2 d3) := hP3; have HQC : Hid (SortedIn lt mid b d3) := hq3; clear hw3 hP3 hS3 hq3))
                go_end0
                have qB : SortedIn lt a mid d2 := HQB.out
                have qC : SortedIn lt mid b d3 := HQC.out
                exact ⟨rfl, d3, whole (by rw [hs1]; exact hb) (by omega) (by omega) HHV.out.cross HPB.out HPC.out qB qC, permIn_trans _ _ _ _ _ HPA.out (permIn_trans _ _ _ _ _ (permIn_mono _ _ _ _ _ _ (by omega) (by omega) (by omega) HPB.out) (permIn_mono _ _ _ _ _ _ (by omega) (by omega) (by omega) HPC.out)), swr_trans HS.out HWC.out hs3⟩
              · have f0 : (s : Int) < m := by omega
                have f1 : (m : Int) < e := by omega
                have f2 : (a : Int) < s := by omega
                have f3 : (s : Int) < mid := by omega
                have f4 : (mid : Int) < e := by omega
                have f5 : ¬ (e : Int) < b := by omega
                have hR := rotate_K L42 hk g lb sf sb blk off s m e d wr hswap HW1.out.held (HW1.out.lt (by simp; omega)) (by omega) (by omega) (by omega) hsz
                go_wp2_with (first | (go_at_fn (ρ.f 42); refine hR.mono ?_; rintro ee w1 ⟨rfl, d1, hB1, hP1, hS1⟩; have hs1 : d1.size = d.size := hB1.1; have hw1 : SWR enc k (W.alloc (.cells #[.func (.func g) #[] lb, .func (.func sf) #[] sb] (ρ.t 42))) blk off d1 w1 := swr_trans HW1.out hS1 hB1.1; have c0w1 : w1.cell? ⟨W.heap.size, 0, none⟩ = some (.func (.func g) #[] lb) := swr_cell hw1 hbne (by simp) (by simp); have c1w1 : w1.cell? ⟨W.heap.size, 1, none⟩ = some (.func (.func sf) #[] sb) := swr_cell hw1 hbne (by simp) (by simp); have HWA : Hid _ := hw1; have HHV : Hid (Halves lt a s mid e b d1) := HHF.out d1 hB1; have HPA : Hid (PermIn a b d d1) := permIn_mono _ _ _ _ _ _ (by omega) (by omega) (by omega) hP1; clear hw1 hP1 hB1 hS1) | (go_at_fn (ρ.f 30); refine (HIH.out a s mid d1 w1 (by omega) (swr_trans HS.out HWA.out hs1) hs1 (by omega) (by omega) (by omega) HHV.out.q1 HHV.out.q2).mono ?_; rintro ee w2 ⟨rfl, d2, hq2, hP2, hS2⟩; have hs2 : d2.size = d.size := hP2.1.trans hs1; have hw2 : SWR enc k (W.alloc (.cells #[.func (.func g) #[] lb, .func (.func sf) #[] sb] (ρ.t 42))) blk off d2 w2 := swr_trans HWA.out hS2 hP2.1; have c0w2 : w2.cell? ⟨W.heap.size, 0, none⟩ = some (.func (.func g) #[] lb) := swr_cell hw2 hbne (by simp) (by simp); have c1w2 : w2.cell? ⟨W.heap.size, 1, none⟩ = some (.func (.func sf) #[] sb) := swr_cell hw2 hbne (by simp) (by simp); have HWB : Hid _ := hw2; have HPB : Hid (PermIn a mid d1 d2) := hP2; have HQB : Hid (SortedIn lt a mid d2) := hq2; clear hw2 hP2 hS2 hq2))
                go_end0
                have qB : SortedIn lt a mid d2 := HQB.out
                have qC : SortedIn lt mid b d2 := permIn_sorted_other HPB.out (fun x y hx hxy hy => HHV.out.q3 x y (by omega) hxy (by omega)) (Or.inr (Nat.le_refl _))
                exact ⟨rfl, d2, whole (by rw [hs1]; exact hb) (by omega) (by omega) HHV.out.cross HPB.out (permIn_refl d2 mid b) qB qC, permIn_trans _ _ _ _ _ HPA.out (permIn_trans _ _ _ _ _ (permIn_mono _ _ _ _ _ _ (by omega) (by omega) (by omega) HPB.out) (permIn_mono _ _ _ _ _ _ (by omega) (by omega) (by omega) (permIn_refl d2 mid b))), swr_trans HS.out HWB.out hs2⟩
            · by_cases k3 : e < b
              · have f0 : (s : Int) < m := by omega
                have f1 : (m : Int) < e := by omega
                have f2 : ¬ (a : Int) < s := by omega
                have f3 : (s : Int) < mid := by omega
                have f4 : (mid : Int) < e := by omega
                have f5 : (e : Int) < b := by omega
                have hR := rotate_K L42 hk g lb sf sb blk off s m e d wr hswap HW1.out.held (HW1.out.lt (by simp; omega)) (by omega) (by omega) (by omega) hsz
                go_wp2_with (first | (go_at_fn (ρ.f 42); refine hR.mono ?_; rintro ee w1 ⟨rfl, d1, hB1, hP1, hS1⟩; have hs1 : d1.size = d.size := hB1.1; have hw1 : SWR enc k (W.alloc (.cells #[.func (.func g) #[] lb, .func (.func sf) #[] sb] (ρ.t 42))) blk off d1 w1 := swr_trans HW1.out hS1 hB1.1; have c0w1 : w1.cell? ⟨W.heap.size, 0, none⟩ = some (.func (.func g) #[] lb) := swr_cell hw1 hbne (by simp) (by simp); have c1w1 : w1.cell? ⟨W.heap.size, 1, none⟩ = some (.func (.func sf) #[] sb) := swr_cell hw1 hbne (by simp) (by simp); have HWA : Hid _ := hw1; have HHV : Hid (Halves lt a s mid e b d1) := HHF.out d1 hB1; have HPA : Hid (PermIn a b d d1) := permIn_mono _ _ _ _ _ _ (by omega) (by omega) (by omega) hP1; clear hw1 hP1 hB1 hS1) | (go_at_fn (ρ.f 30); refine (HIH.out mid e b d1 w1 (by omega) (swr_trans HS.out HWA.out hs1) hs1 (by omega) (by omega) (by omega) (permIn_sorted_other (permIn_refl d1 a mid) HHV.out.q3 (Or.inr (Nat.le_refl _))) (permIn_sorted_other (permIn_refl d1 a mid) HHV.out.q4 (Or.inr (by omega)))).mono ?_; rintro ee w3 ⟨rfl, d3, hq3, hP3, hS3⟩; have hs3 : d3.size = d.size := hP3.1.trans hs1; have hw3 : SWR enc k (W.alloc (.cells #[.func (.func g) #[] lb, .func (.func sf) #[] sb] (ρ.t 42))) blk off d3 w3 := swr_trans HWA.out hS3 hP3.1; have HWC : Hid _ := hw3; have HPC : Hid (PermIn mid b d1 d3) := hP3; have HQC : Hid (SortedIn lt mid b d3) := hq3; clear hw3 hP3 hS3 hq3))
                go_end0
                have qB : SortedIn lt a mid d1 := fun x y hx hxy hy => HHV.out.q2 x y (by omega) hxy (by omega)
                have qC : SortedIn lt mid b d3 := HQC.out
                exact ⟨rfl, d3, whole (by rw [hs1]; exact hb) (by omega) (by omega) HHV.out.cross (permIn_refl d1 a mid) HPC.out qB qC, permIn_trans _ _ _ _ _ HPA.out (permIn_trans _ _ _ _ _ (permIn_mono _ _ _ _ _ _ (by omega) (by omega) (by omega) (permIn_refl d1 a mid)) (permIn_mono _ _ _ _ _ _ (by omega) (by omega) (by omega) HPC.out)), swr_trans HS.out HWC.out hs3⟩
              · have f0 : (s : Int) < m := by omega
                have f1 : (m : Int) < e := by omega
                have f2 : ¬ (a : Int) < s := by omega
                have f3 : (s : Int) < mid := by omega
                have f4 : (mid : Int) < e := by omega
                have f5 : ¬ (e : Int) < b := by omega
                have hR := rotate_K L42 hk g lb sf sb blk off s m e d wr hswap HW1.out.held (HW1.out.lt (by simp; omega)) (by omega) (by omega) (by omega) hsz
                go_wp2_with (go_at_fn (ρ.f 42); refine hR.mono ?_; rintro ee w1 ⟨rfl, d1, hB1, hP1, hS1⟩; have hs1 : d1.size = d.size := hB1.1; have hw1 : SWR enc k (W.alloc (.cells #[.func (.func g) #[] lb, .func (.func sf) #[] sb] (ρ.t 42))) blk off d1 w1 := swr_trans HW1.out hS1 hB1.1; have c0w1 : w1.cell? ⟨W.heap.size, 0, none⟩ = some (.func (.func g) #[] lb) := swr_cell hw1 hbne (by simp) (by simp); have c1w1 : w1.cell? ⟨W.heap.size, 1, none⟩ = some (.func (.func sf) #[] sb) := swr_cell hw1 hbne (by simp) (by simp); have HWA : Hid _ := hw1; have HHV : Hid (Halves lt a s mid e b d1) := HHF.out d1 hB1; have HPA : Hid (PermIn a b d d1) := permIn_mono _ _ _ _ _ _ (by omega) (by omega) (by omega) hP1; clear hw1 hP1 hB1 hS1)
                go_end0
                have qB : SortedIn lt a mid d1 := fun x y hx hxy hy => HHV.out.q2 x y (by omega) hxy (by omega)
                have qC : SortedIn lt mid b d1 := permIn_sorted_other (permIn_refl d1 a mid) (fun x y hx hxy hy => HHV.out.q3 x y (by omega) hxy (by omega)) (Or.inr (Nat.le_refl _))
                exact ⟨rfl, d1, whole (by rw [hs1]; exact hb) (by omega) (by omega) HHV.out.cross (permIn_refl d1 a mid) (permIn_refl d1 mid b) qB qC, permIn_trans _ _ _ _ _ HPA.out (permIn_trans _ _ _ _ _ (permIn_mono _ _ _ _ _ _ (by omega) (by omega) (by omega) (permIn_refl d1 a mid)) (permIn_mono _ _ _ _ _ _ (by omega) (by omega) (by omega) (permIn_refl d1 mid b))), swr_trans HS.out HWA.out hs1⟩
          · have f0 : ¬ (s : Int) < m := by omega
            have f1 : (a : Int) < s := by omega
            have f2 : (s : Int) < mid := by omega
            have f3 : ¬ (mid : Int) < e := by omega
            obtain ⟨d1, hd1⟩ : ∃ d1, d1 = d := ⟨_, rfl⟩
            obtain ⟨w1, hw1⟩ : ∃ w1, w1 = wr := ⟨_, rfl⟩
            have hs1 : d1.size = d.size := by rw [hd1]
            have HWA : Hid (SWR enc k (W.alloc (.cells #[.func (.func g) #[] lb, .func (.func sf) #[] sb] (ρ.t 42))) blk off d1 w1) := by rw [hd1, hw1]; exact HW1.out
            have HHV : Hid (Halves lt a s mid e b d1) := by rw [hd1]; exact HHF.out d (by rw [show s = m by omega]; exact rot_none' m e (by omega) d)
            have HPA : Hid (PermIn a b d d1) := by rw [hd1]; exact permIn_refl d _ _
            rw [← hw1] at c0 c1
            rw [← hw1]
            clear hd1 hw1
            go_wp2_with (go_at_fn (ρ.f 30); refine (HIH.out a s mid d1 w1 (by omega) (swr_trans HS.out HWA.out hs1) hs1 (by omega) (by omega) (by omega) HHV.out.q1 HHV.out.q2).mono ?_; rintro ee w2 ⟨rfl, d2, hq2, hP2, hS2⟩; have hs2 : d2.size = d.size := hP2.1.trans hs1; have hw2 : SWR enc k (W.alloc (.cells #[.func (.func g) #[] lb, .func (.func sf) #[] sb] (ρ.t 42))) blk off d2 w2 := swr_trans HWA.out hS2 hP2.1; have c0w2 : w2.cell? ⟨W.heap.size, 0, none⟩ = some (.func (.func g) #[] lb) := swr_cell hw2 hbne (by simp) (by simp); have c1w2 : w2.cell? ⟨W.heap.size, 1, none⟩ = some (.func (.func sf) #[] sb) := swr_cell hw2 hbne (by simp) (by simp); have HWB : Hid _ := hw2; have HPB : Hid (PermIn a mid d1 d2) := hP2; have HQB : Hid (SortedIn lt a mid d2) := hq2; clear hw2 hP2 hS2 hq2)
            go_end0
            have qB : SortedIn lt a mid d2 := HQB.out
            have qC : SortedIn lt mid b d2 := permIn_sorted_other HPB.out (fun x y hx hxy hy => HHV.out.q4 x y (by omega) hxy (by omega)) (Or.inr (Nat.le_refl _))
            exact ⟨rfl, d2, whole (by rw [hs1]; exact hb) (by omega) (by omega) HHV.out.cross HPB.out (permIn_refl d2 mid b) qB qC, permIn_trans _ _ _ _ _ HPA.out (permIn_trans _ _ _ _ _ (permIn_mono _ _ _ _ _ _ (by omega) (by omega) (by omega) HPB.out) (permIn_mono _ _ _ _ _ _ (by omega) (by omega) (by omega) (permIn_refl d2 mid b))), swr_trans HS.out HWB.out hs2⟩
        · have f0 : ¬ (s : Int) < m := by omega
          have f1 : (a : Int) < s := by omega
          have f2 : ¬ (s : Int) < mid := by omega
          have f3 : ¬ (mid : Int) < e := by omega
          obtain ⟨d1, hd1⟩ : ∃ d1, d1 = d := ⟨_, rfl⟩
          obtain ⟨w1, hw1⟩ : ∃ w1, w1 = wr := ⟨_, rfl⟩
          have hs1 : d1.size = d.size := by rw [hd1]
          have HWA : Hid (SWR enc k (W.alloc (.cells #[.func (.func g) #[] lb, .func (.func sf) #[] sb] (ρ.t 42))) blk off d1 w1) := by rw [hd1, hw1]; exact HW1.out
          have HHV : Hid (Halves lt a s mid e b d1) := by rw [hd1]; exact HHF.out d (by rw [show s = m by omega]; exact rot_none' m e (by omega) d)
          have HPA : Hid (PermIn a b d d1) := by rw [hd1]; exact permIn_refl d _ _
          rw [← hw1] at c0 c1
          rw [← hw1]
          clear hd1 hw1
          go_wp2
          go_end0
          have qB : SortedIn lt a mid d1 := fun x y hx hxy hy => HHV.out.q1 x y (by omega) hxy (by omega)
          have qC : SortedIn lt mid b d1 := permIn_sorted_other (permIn_refl d1 a mid) (fun x y hx hxy hy => HHV.out.q4 x y (by omega) hxy (by omega)) (Or.inr (Nat.le_refl _))
          exact ⟨rfl, d1, whole (by rw [hs1]; exact hb) (by omega) (by omega) HHV.out.cross (permIn_refl d1 a mid) (permIn_refl d1 mid b) qB qC, permIn_trans _ _ _ _ _ HPA.out (permIn_trans _ _ _ _ _ (permIn_mono _ _ _ _ _ _ (by omega) (by omega) (by omega) (permIn_refl d1 a mid)) (permIn_mono _ _ _ _ _ _ (by omega) (by omega) (by omega) (permIn_refl d1 mid b))), swr_trans HS.out HWA.out hs1⟩

/-- two sorted ranges beside one another become one -/
theorem symMerge_K (L : LaysGt.n30 P ρ) (hO : SWO lt) (hk : ∀ x, (enc x).length = k) (g : Nat) (lb : Array Value) (sf : Nat) (sb : Array Value) (blk off : Nat)
    (eg : ∀ args w, (callFunc g args).run P w = .ok (.enter g args) w) : ∀ (N a m b : Nat) (d : Array α) (W : World), b - a ≤ N → LessG P g lb enc k lt blk off d.size W →
    SwapSwapsK P sf sb enc k blk off d.size → HoldsK enc k W blk off d → blk < W.heap.size → a < m → m < b → b ≤ d.size → d.size < 4611686018427387904 → SortedIn lt a m d → SortedIn lt m b d →
    Calls P (ρ.f 30) #[.agg #[.func (.func g) #[] lb, .func (.func sf) #[] sb], .int .i64 a, .int .i64 m, .int .i64 b] W fun e w' => e = .returned (.tuple #[]) ∧ ∃ d', SortedIn lt a b d' ∧ PermIn a b d d' ∧ SWR enc k W blk off d' w'
  | 0, a, m, b, d, W, hN, _, _, _, _, h1, h2, _, _, _, _ => by omega
  | N + 1, a, m, b, d, W, hN, hless, hswap, hH, hblk, ham, hmb, hb, hsz, hs1, hs2 => by
    by_cases k1 : m = a + 1
    · exact symMerge_left L hO hk g lb sf sb blk off a m b d W eg hless hswap hH hblk k1 (by omega) hb hsz hs2
    · by_cases k2 : b = m + 1
      · exact symMerge_right L hO hk g lb sf sb blk off a m b d W eg hless hswap hH hblk k1 (by omega) k2 hb hsz hs1
      · exact symMerge_mid L hO hk g lb sf sb blk off a m b d W eg hless hswap hH hblk (by omega) (by omega) hb hsz hs1 hs2
          (fun a' m' b' dx wx hlt hS hsx h1 h2 h3 q1 q2 => symMerge_K L hO hk g lb sf sb blk off eg N a' m' b' dx wx (by omega) (by rw [hsx]; exact hS.lessG hless hsx) (by rw [hsx]; exact hswap) hS.held (hS.lt hblk) h1 h2 (by omega) (by omega) q1 q2)
end Go.Proofs.Ytmchkhjchpnmaaa
