/- sort.stable_func at 40 elements of k cells or fewer: a sorted permutation. -/
import Derived.Test.YtmchkhjchpnmaaaMgIns
import Derived.Test.YtmchkhjchpnmaaaMgWk3
namespace Go.Proofs.Ytmchkhjchpnmaaa
open Go.Proofs Go.Shelf Go.RowKit Go.Lib Go.Sort
set_option linter.unusedVariables false
set_option linter.unusedSectionVars false
variable {P : Program} {ρ : Ren} {α : Type} [Inhabited α] {enc : α → List Value} {k : Nat} {lt : α → α → Bool}
theorem sorted_none (lt : α → α → Bool) (a b : Nat) (d : Array α) (h : b ≤ a) : SortedIn lt a b d := fun x y hx hxy hy => by omega

set_option maxHeartbeats 4000000 in
set_option maxRecDepth 100000 in
theorem stable_lt20 (L : LaysGt.n15 P ρ) (hO : SWO lt) (hk : ∀ x, (enc x).length = k) (g : Nat) (lb : Array Value) (sf : Nat) (sb : Array Value) (blk off : Nat) (d : Array α) (W : World)
    (eg : ∀ args w, (callFunc g args).run P w = .ok (.enter g args) w) (hless : LessG P g lb enc k lt blk off d.size W)
    (hswap : SwapSwapsK P sf sb enc k blk off d.size) (hH : HoldsK enc k W blk off d) (hblk : blk < W.heap.size) (hn : d.size < 20) :
    Calls P (ρ.f 15) #[.agg #[.func (.func g) #[] lb, .func (.func sf) #[] sb], .int .i64 d.size] W fun e w' => e = .returned (.tuple #[]) ∧ ∃ d', PermIn 0 d.size d d' ∧ SortedIn lt 0 d.size d' ∧ SWR enc k W blk off d' w' := by
  have mixed := L.mixed; have t0 := L.t0; have a0 := L.a0; have z0 := L.z0; have v0 := L.v0; have t3 := L.t3; have a3 := L.a3; have z3 := L.z3; have v3 := L.v3; have t4 := L.t4; have a4 := L.a4; have z4 := L.z4; have v4 := L.v4; have t26 := L.t26; have a26 := L.a26; have z26 := L.z26; have v26 := L.v26; have t38 := L.t38; have a38 := L.a38; have z38 := L.z38; have v38 := L.v38; have t42 := L.t42; have a42 := L.a42; have z42 := L.z42; have v42 := L.v42; have t47 := L.t47; have a47 := L.a47; have z47 := L.z47; have v47 := L.v47
  have u42 := run_underlying L.t42
  have e29 : ∀ args w, (callFunc (ρ.f 29) args).run P w = .ok (.enter (ρ.f 29) args) w := enters_of L.f29 (by kernel_rfl) rfl
  have e30 : ∀ args w, (callFunc (ρ.f 30) args).run P w = .ok (.enter (ρ.f 30) args) w := enters_of L.f30 (by kernel_rfl) rfl
  have L29 : LaysGt.n29 P ρ := { L with }
  have L30 : LaysGt.n30 P ρ := { L with }
  have hsz : d.size < 4611686018427387904 := by omega
  have hS := (SWR.start hH).alloc hblk (.cells #[.func (.func g) #[] lb, .func (.func sf) #[] sb] (ρ.t 42))
  have HS : Hid _ := hS
  have HH1 : Hid (HoldsK enc k (W.alloc (.cells #[.func (.func g) #[] lb, .func (.func sf) #[] sb] (ρ.t 42))) blk off d) := hS.held
  have HINS : Hid (∀ (a b : Nat) (dx : Array α) (wx : World), SWR enc k (W.alloc (.cells #[.func (.func g) #[] lb, .func (.func sf) #[] sb] (ρ.t 42))) blk off dx wx → dx.size = d.size → a ≤ b → b ≤ d.size →
      Calls P (ρ.f 29) #[.agg #[.func (.func g) #[] lb, .func (.func sf) #[] sb], .int .i64 a, .int .i64 b] wx fun e w' => e = .returned (.tuple #[]) ∧ ∃ dy, PermIn a b dx dy ∧ SortedIn lt a b dy ∧ SWR enc k (W.alloc (.cells #[.func (.func g) #[] lb, .func (.func sf) #[] sb] (ρ.t 42))) blk off dy w') := fun a b dx wx hw hsx hab hb => by
    have hw0 := swr_trans hS hw hsx
    refine (insertion_K L29 hk g lb sf sb blk off a b dx wx eg (by rw [hsx]; exact hw0.lessG hless hsx) (by rw [hsx]; exact hswap) hw.held (hw0.lt hblk) hab (by omega) (by omega)).mono ?_
    rintro e w' ⟨rfl, h⟩
    have hi := insertionSort_holds hO dx a b hab (by omega)
    exact ⟨rfl, _, hi.1, hi.2, swr_trans hw h hi.1.1⟩
  have HMRG : Hid (∀ (a m b : Nat) (dx : Array α) (wx : World), SWR enc k (W.alloc (.cells #[.func (.func g) #[] lb, .func (.func sf) #[] sb] (ρ.t 42))) blk off dx wx → dx.size = d.size → a < m → m < b → b ≤ d.size → SortedIn lt a m dx → SortedIn lt m b dx →
      Calls P (ρ.f 30) #[.agg #[.func (.func g) #[] lb, .func (.func sf) #[] sb], .int .i64 a, .int .i64 m, .int .i64 b] wx fun e w' => e = .returned (.tuple #[]) ∧ ∃ dy, PermIn a b dx dy ∧ SortedIn lt a b dy ∧ SWR enc k (W.alloc (.cells #[.func (.func g) #[] lb, .func (.func sf) #[] sb] (ρ.t 42))) blk off dy w') := fun a m b dx wx hw hsx h1 h2 hb q1 q2 => by
    have hw0 := swr_trans hS hw hsx
    refine (symMerge_K L30 hO hk g lb sf sb blk off eg (b - a) a m b dx wx (Nat.le_refl _) (by rw [hsx]; exact hw0.lessG hless hsx) (by rw [hsx]; exact hswap) hw.held (hw0.lt hblk) h1 h2 (by omega) (by omega) q1 q2).mono ?_
    rintro e w' ⟨rfl, dy, hs, hp, h⟩
    exact ⟨rfl, dy, hp, hs, swr_trans hw h hp.1⟩
  clear hless hswap hH hS
  have hbne : W.heap.size ≠ blk := by omega
  go_enter L.f15, BodyGt.n15_ntmps ρ
  go_wp2
  refine wp_loop_rounds 1 ?_
  rw [rounds_succ]
  go_wp2_with (go_at_fn (ρ.f 29); refine (HINS.out 0 d.size d _ (SWR.start HH1.out) rfl (Nat.zero_le _) (Nat.le_refl _)).mono ?_; rintro ee w1 ⟨rfl, d1, hP, hS, hw⟩; have z1 : d1.size = d.size := hP.1.trans rfl; have c0w1 : w1.cell? ⟨W.heap.size, 0, none⟩ = some (.func (.func g) #[] lb) := swr_cell hw hbne (by simp) (by simp); have c1w1 : w1.cell? ⟨W.heap.size, 1, none⟩ = some (.func (.func sf) #[] sb) := swr_cell hw hbne (by simp) (by simp); have H1 : Hid _ := hw; have P1 : Hid _ := hP; have S1 : Hid _ := hS; clear hP hS hw)
  refine wp_loop_rounds 1 ?_
  rw [rounds_succ]
  go_wp2
  go_end0
  exact ⟨rfl, d1, P1.out, S1.out, swr_trans HS.out H1.out z1⟩

set_option maxHeartbeats 4000000 in
set_option maxRecDepth 100000 in
theorem stable_at20 (L : LaysGt.n15 P ρ) (hO : SWO lt) (hk : ∀ x, (enc x).length = k) (g : Nat) (lb : Array Value) (sf : Nat) (sb : Array Value) (blk off : Nat) (d : Array α) (W : World)
    (eg : ∀ args w, (callFunc g args).run P w = .ok (.enter g args) w) (hless : LessG P g lb enc k lt blk off d.size W)
    (hswap : SwapSwapsK P sf sb enc k blk off d.size) (hH : HoldsK enc k W blk off d) (hblk : blk < W.heap.size) (hn : d.size = 20) :
    Calls P (ρ.f 15) #[.agg #[.func (.func g) #[] lb, .func (.func sf) #[] sb], .int .i64 d.size] W fun e w' => e = .returned (.tuple #[]) ∧ ∃ d', PermIn 0 d.size d d' ∧ SortedIn lt 0 d.size d' ∧ SWR enc k W blk off d' w' := by
  have mixed := L.mixed; have t0 := L.t0; have a0 := L.a0; have z0 := L.z0; have v0 := L.v0; have t3 := L.t3; have a3 := L.a3; have z3 := L.z3; have v3 := L.v3; have t4 := L.t4; have a4 := L.a4; have z4 := L.z4; have v4 := L.v4; have t26 := L.t26; have a26 := L.a26; have z26 := L.z26; have v26 := L.v26; have t38 := L.t38; have a38 := L.a38; have z38 := L.z38; have v38 := L.v38; have t42 := L.t42; have a42 := L.a42; have z42 := L.z42; have v42 := L.v42; have t47 := L.t47; have a47 := L.a47; have z47 := L.z47; have v47 := L.v47
  have u42 := run_underlying L.t42
  have e29 : ∀ args w, (callFunc (ρ.f 29) args).run P w = .ok (.enter (ρ.f 29) args) w := enters_of L.f29 (by kernel_rfl) rfl
  have e30 : ∀ args w, (callFunc (ρ.f 30) args).run P w = .ok (.enter (ρ.f 30) args) w := enters_of L.f30 (by kernel_rfl) rfl
  have L29 : LaysGt.n29 P ρ := { L with }
  have L30 : LaysGt.n30 P ρ := { L with }
  have hsz : d.size < 4611686018427387904 := by omega
  have hS := (SWR.start hH).alloc hblk (.cells #[.func (.func g) #[] lb, .func (.func sf) #[] sb] (ρ.t 42))
  have HS : Hid _ := hS
  have HH1 : Hid (HoldsK enc k (W.alloc (.cells #[.func (.func g) #[] lb, .func (.func sf) #[] sb] (ρ.t 42))) blk off d) := hS.held
  have HINS : Hid (∀ (a b : Nat) (dx : Array α) (wx : World), SWR enc k (W.alloc (.cells #[.func (.func g) #[] lb, .func (.func sf) #[] sb] (ρ.t 42))) blk off dx wx → dx.size = d.size → a ≤ b → b ≤ d.size →
      Calls P (ρ.f 29) #[.agg #[.func (.func g) #[] lb, .func (.func sf) #[] sb], .int .i64 a, .int .i64 b] wx fun e w' => e = .returned (.tuple #[]) ∧ ∃ dy, PermIn a b dx dy ∧ SortedIn lt a b dy ∧ SWR enc k (W.alloc (.cells #[.func (.func g) #[] lb, .func (.func sf) #[] sb] (ρ.t 42))) blk off dy w') := fun a b dx wx hw hsx hab hb => by
    have hw0 := swr_trans hS hw hsx
    refine (insertion_K L29 hk g lb sf sb blk off a b dx wx eg (by rw [hsx]; exact hw0.lessG hless hsx) (by rw [hsx]; exact hswap) hw.held (hw0.lt hblk) hab (by omega) (by omega)).mono ?_
    rintro e w' ⟨rfl, h⟩
    have hi := insertionSort_holds hO dx a b hab (by omega)
    exact ⟨rfl, _, hi.1, hi.2, swr_trans hw h hi.1.1⟩
  have HMRG : Hid (∀ (a m b : Nat) (dx : Array α) (wx : World), SWR enc k (W.alloc (.cells #[.func (.func g) #[] lb, .func (.func sf) #[] sb] (ρ.t 42))) blk off dx wx → dx.size = d.size → a < m → m < b → b ≤ d.size → SortedIn lt a m dx → SortedIn lt m b dx →
      Calls P (ρ.f 30) #[.agg #[.func (.func g) #[] lb, .func (.func sf) #[] sb], .int .i64 a, .int .i64 m, .int .i64 b] wx fun e w' => e = .returned (.tuple #[]) ∧ ∃ dy, PermIn a b dx dy ∧ SortedIn lt a b dy ∧ SWR enc k (W.alloc (.cells #[.func (.func g) #[] lb, .func (.func sf) #[] sb] (ρ.t 42))) blk off dy w') := fun a m b dx wx hw hsx h1 h2 hb q1 q2 => by
    have hw0 := swr_trans hS hw hsx
    refine (symMerge_K L30 hO hk g lb sf sb blk off eg (b - a) a m b dx wx (Nat.le_refl _) (by rw [hsx]; exact hw0.lessG hless hsx) (by rw [hsx]; exact hswap) hw.held (hw0.lt hblk) h1 h2 (by omega) (by omega) q1 q2).mono ?_
    rintro e w' ⟨rfl, dy, hs, hp, h⟩
    exact ⟨rfl, dy, hp, hs, swr_trans hw h hp.1⟩
  clear hless hswap hH hS
  have hbne : W.heap.size ≠ blk := by omega
  go_enter L.f15, BodyGt.n15_ntmps ρ
  go_wp2
  refine wp_loop_rounds 2 ?_
  rw [rounds_succ]
  go_wp2_with (go_at_fn (ρ.f 29); refine (HINS.out 0 20 d _ (SWR.start HH1.out) rfl (by omega) (by omega)).mono ?_; rintro ee w1 ⟨rfl, d1, hP, hS, hw⟩; have z1 : d1.size = d.size := hP.1.trans rfl; have c0w1 : w1.cell? ⟨W.heap.size, 0, none⟩ = some (.func (.func g) #[] lb) := swr_cell hw hbne (by simp) (by simp); have c1w1 : w1.cell? ⟨W.heap.size, 1, none⟩ = some (.func (.func sf) #[] sb) := swr_cell hw hbne (by simp) (by simp); have H1 : Hid _ := hw; have P1 : Hid _ := hP; have S1 : Hid _ := hS; clear hP hS hw)
  rw [rounds_succ]
  go_wp2_with (go_at_fn (ρ.f 29); refine (HINS.out 20 20 d1 _ H1.out z1 (by omega) (by omega)).mono ?_; rintro ee w2 ⟨rfl, d2, hP, hS, hw⟩; have z2 : d2.size = d.size := hP.1.trans z1; have c0w2 : w2.cell? ⟨W.heap.size, 0, none⟩ = some (.func (.func g) #[] lb) := swr_cell hw hbne (by simp) (by simp); have c1w2 : w2.cell? ⟨W.heap.size, 1, none⟩ = some (.func (.func sf) #[] sb) := swr_cell hw hbne (by simp) (by simp); have H2 : Hid _ := hw; have P2 : Hid _ := hP; have S2 : Hid _ := hS; clear hP hS hw)
  refine wp_loop_rounds 1 ?_
  rw [rounds_succ]
  go_wp2
  go_end0
  have e2 : d2 = d1 := Array.ext (z2.trans z1.symm) fun i h1 h2 => by
    have := P2.out.2.1 i (by omega)
    rwa [getElem!_pos d2 i h1, getElem!_pos d1 i h2] at this
  rw [hn]
  exact ⟨rfl, d2, by rw [e2]; exact P1.out, by rw [e2]; exact S1.out, swr_trans HS.out H2.out z2⟩

set_option maxHeartbeats 4000000 in
set_option maxRecDepth 100000 in
theorem stable_lt40 (L : LaysGt.n15 P ρ) (hO : SWO lt) (hk : ∀ x, (enc x).length = k) (g : Nat) (lb : Array Value) (sf : Nat) (sb : Array Value) (blk off : Nat) (d : Array α) (W : World)
    (eg : ∀ args w, (callFunc g args).run P w = .ok (.enter g args) w) (hless : LessG P g lb enc k lt blk off d.size W)
    (hswap : SwapSwapsK P sf sb enc k blk off d.size) (hH : HoldsK enc k W blk off d) (hblk : blk < W.heap.size) (hn1 : 20 < d.size) (hn : d.size < 40) :
    Calls P (ρ.f 15) #[.agg #[.func (.func g) #[] lb, .func (.func sf) #[] sb], .int .i64 d.size] W fun e w' => e = .returned (.tuple #[]) ∧ ∃ d', PermIn 0 d.size d d' ∧ SortedIn lt 0 d.size d' ∧ SWR enc k W blk off d' w' := by
  have mixed := L.mixed; have t0 := L.t0; have a0 := L.a0; have z0 := L.z0; have v0 := L.v0; have t3 := L.t3; have a3 := L.a3; have z3 := L.z3; have v3 := L.v3; have t4 := L.t4; have a4 := L.a4; have z4 := L.z4; have v4 := L.v4; have t26 := L.t26; have a26 := L.a26; have z26 := L.z26; have v26 := L.v26; have t38 := L.t38; have a38 := L.a38; have z38 := L.z38; have v38 := L.v38; have t42 := L.t42; have a42 := L.a42; have z42 := L.z42; have v42 := L.v42; have t47 := L.t47; have a47 := L.a47; have z47 := L.z47; have v47 := L.v47
  have u42 := run_underlying L.t42
  have e29 : ∀ args w, (callFunc (ρ.f 29) args).run P w = .ok (.enter (ρ.f 29) args) w := enters_of L.f29 (by kernel_rfl) rfl
  have e30 : ∀ args w, (callFunc (ρ.f 30) args).run P w = .ok (.enter (ρ.f 30) args) w := enters_of L.f30 (by kernel_rfl) rfl
  have L29 : LaysGt.n29 P ρ := { L with }
  have L30 : LaysGt.n30 P ρ := { L with }
  have hsz : d.size < 4611686018427387904 := by omega
  have hS := (SWR.start hH).alloc hblk (.cells #[.func (.func g) #[] lb, .func (.func sf) #[] sb] (ρ.t 42))
  have HS : Hid _ := hS
  have HH1 : Hid (HoldsK enc k (W.alloc (.cells #[.func (.func g) #[] lb, .func (.func sf) #[] sb] (ρ.t 42))) blk off d) := hS.held
  have HINS : Hid (∀ (a b : Nat) (dx : Array α) (wx : World), SWR enc k (W.alloc (.cells #[.func (.func g) #[] lb, .func (.func sf) #[] sb] (ρ.t 42))) blk off dx wx → dx.size = d.size → a ≤ b → b ≤ d.size →
      Calls P (ρ.f 29) #[.agg #[.func (.func g) #[] lb, .func (.func sf) #[] sb], .int .i64 a, .int .i64 b] wx fun e w' => e = .returned (.tuple #[]) ∧ ∃ dy, PermIn a b dx dy ∧ SortedIn lt a b dy ∧ SWR enc k (W.alloc (.cells #[.func (.func g) #[] lb, .func (.func sf) #[] sb] (ρ.t 42))) blk off dy w') := fun a b dx wx hw hsx hab hb => by
    have hw0 := swr_trans hS hw hsx
    refine (insertion_K L29 hk g lb sf sb blk off a b dx wx eg (by rw [hsx]; exact hw0.lessG hless hsx) (by rw [hsx]; exact hswap) hw.held (hw0.lt hblk) hab (by omega) (by omega)).mono ?_
    rintro e w' ⟨rfl, h⟩
    have hi := insertionSort_holds hO dx a b hab (by omega)
    exact ⟨rfl, _, hi.1, hi.2, swr_trans hw h hi.1.1⟩
  have HMRG : Hid (∀ (a m b : Nat) (dx : Array α) (wx : World), SWR enc k (W.alloc (.cells #[.func (.func g) #[] lb, .func (.func sf) #[] sb] (ρ.t 42))) blk off dx wx → dx.size = d.size → a < m → m < b → b ≤ d.size → SortedIn lt a m dx → SortedIn lt m b dx →
      Calls P (ρ.f 30) #[.agg #[.func (.func g) #[] lb, .func (.func sf) #[] sb], .int .i64 a, .int .i64 m, .int .i64 b] wx fun e w' => e = .returned (.tuple #[]) ∧ ∃ dy, PermIn a b dx dy ∧ SortedIn lt a b dy ∧ SWR enc k (W.alloc (.cells #[.func (.func g) #[] lb, .func (.func sf) #[] sb] (ρ.t 42))) blk off dy w') := fun a m b dx wx hw hsx h1 h2 hb q1 q2 => by
    have hw0 := swr_trans hS hw hsx
    refine (symMerge_K L30 hO hk g lb sf sb blk off eg (b - a) a m b dx wx (Nat.le_refl _) (by rw [hsx]; exact hw0.lessG hless hsx) (by rw [hsx]; exact hswap) hw.held (hw0.lt hblk) h1 h2 (by omega) (by omega) q1 q2).mono ?_
    rintro e w' ⟨rfl, dy, hs, hp, h⟩
    exact ⟨rfl, dy, hp, hs, swr_trans hw h hp.1⟩
  clear hless hswap hH hS
  have hbne : W.heap.size ≠ blk := by omega
  go_enter L.f15, BodyGt.n15_ntmps ρ
  go_wp2
  refine wp_loop_rounds 2 ?_
  rw [rounds_succ]
  go_wp2_with (go_at_fn (ρ.f 29); refine (HINS.out 0 20 d _ (SWR.start HH1.out) rfl (by omega) (by omega)).mono ?_; rintro ee w1 ⟨rfl, d1, hP, hS, hw⟩; have z1 : d1.size = d.size := hP.1.trans rfl; have c0w1 : w1.cell? ⟨W.heap.size, 0, none⟩ = some (.func (.func g) #[] lb) := swr_cell hw hbne (by simp) (by simp); have c1w1 : w1.cell? ⟨W.heap.size, 1, none⟩ = some (.func (.func sf) #[] sb) := swr_cell hw hbne (by simp) (by simp); have H1 : Hid _ := hw; have P1 : Hid _ := hP; have S1 : Hid _ := hS; clear hP hS hw)
  rw [rounds_succ]
  go_wp2_with (go_at_fn (ρ.f 29); refine (HINS.out 20 d.size d1 _ H1.out z1 (by omega) (by omega)).mono ?_; rintro ee w2 ⟨rfl, d2, hP, hS, hw⟩; have z2 : d2.size = d.size := hP.1.trans z1; have c0w2 : w2.cell? ⟨W.heap.size, 0, none⟩ = some (.func (.func g) #[] lb) := swr_cell hw hbne (by simp) (by simp); have c1w2 : w2.cell? ⟨W.heap.size, 1, none⟩ = some (.func (.func sf) #[] sb) := swr_cell hw hbne (by simp) (by simp); have H2 : Hid _ := hw; have P2 : Hid _ := hP; have S2 : Hid _ := hS; clear hP hS hw)
  refine wp_loop_rounds 2 ?_
  rw [rounds_succ]
  go_wp2
  refine wp_loop_rounds 1 ?_
  rw [rounds_succ]
  go_wp2_with (go_at_fn (ρ.f 30); refine (HMRG.out 0 20 d.size d2 _ H2.out z2 (by omega) (by omega) (by omega) (permIn_sorted_other P2.out S1.out (Or.inl (Nat.le_refl _))) S2.out).mono ?_; rintro ee w3 ⟨rfl, d3, hP, hS, hw⟩; have z3 : d3.size = d.size := hP.1.trans z2; have c0w3 : w3.cell? ⟨W.heap.size, 0, none⟩ = some (.func (.func g) #[] lb) := swr_cell hw hbne (by simp) (by simp); have c1w3 : w3.cell? ⟨W.heap.size, 1, none⟩ = some (.func (.func sf) #[] sb) := swr_cell hw hbne (by simp) (by simp); have H3 : Hid _ := hw; have P3 : Hid _ := hP; have S3 : Hid _ := hS; clear hP hS hw)
  rw [rounds_succ]
  go_wp2
  go_end0
  exact ⟨rfl, d3, permIn_trans _ _ _ _ _ (permIn_mono _ _ _ _ _ _ (by omega) (by omega) (by omega) P1.out) (permIn_trans _ _ _ _ _ (permIn_mono _ _ _ _ _ _ (by omega) (by omega) (by omega) P2.out) P3.out), S3.out, swr_trans HS.out H3.out z3⟩

set_option maxHeartbeats 4000000 in
set_option maxRecDepth 100000 in
theorem stable_at40 (L : LaysGt.n15 P ρ) (hO : SWO lt) (hk : ∀ x, (enc x).length = k) (g : Nat) (lb : Array Value) (sf : Nat) (sb : Array Value) (blk off : Nat) (d : Array α) (W : World)
    (eg : ∀ args w, (callFunc g args).run P w = .ok (.enter g args) w) (hless : LessG P g lb enc k lt blk off d.size W)
    (hswap : SwapSwapsK P sf sb enc k blk off d.size) (hH : HoldsK enc k W blk off d) (hblk : blk < W.heap.size) (hn : d.size = 40) :
    Calls P (ρ.f 15) #[.agg #[.func (.func g) #[] lb, .func (.func sf) #[] sb], .int .i64 d.size] W fun e w' => e = .returned (.tuple #[]) ∧ ∃ d', PermIn 0 d.size d d' ∧ SortedIn lt 0 d.size d' ∧ SWR enc k W blk off d' w' := by
  have mixed := L.mixed; have t0 := L.t0; have a0 := L.a0; have z0 := L.z0; have v0 := L.v0; have t3 := L.t3; have a3 := L.a3; have z3 := L.z3; have v3 := L.v3; have t4 := L.t4; have a4 := L.a4; have z4 := L.z4; have v4 := L.v4; have t26 := L.t26; have a26 := L.a26; have z26 := L.z26; have v26 := L.v26; have t38 := L.t38; have a38 := L.a38; have z38 := L.z38; have v38 := L.v38; have t42 := L.t42; have a42 := L.a42; have z42 := L.z42; have v42 := L.v42; have t47 := L.t47; have a47 := L.a47; have z47 := L.z47; have v47 := L.v47
  have u42 := run_underlying L.t42
  have e29 : ∀ args w, (callFunc (ρ.f 29) args).run P w = .ok (.enter (ρ.f 29) args) w := enters_of L.f29 (by kernel_rfl) rfl
  have e30 : ∀ args w, (callFunc (ρ.f 30) args).run P w = .ok (.enter (ρ.f 30) args) w := enters_of L.f30 (by kernel_rfl) rfl
  have L29 : LaysGt.n29 P ρ := { L with }
  have L30 : LaysGt.n30 P ρ := { L with }
  have hsz : d.size < 4611686018427387904 := by omega
  have hS := (SWR.start hH).alloc hblk (.cells #[.func (.func g) #[] lb, .func (.func sf) #[] sb] (ρ.t 42))
  have HS : Hid _ := hS
  have HH1 : Hid (HoldsK enc k (W.alloc (.cells #[.func (.func g) #[] lb, .func (.func sf) #[] sb] (ρ.t 42))) blk off d) := hS.held
  have HINS : Hid (∀ (a b : Nat) (dx : Array α) (wx : World), SWR enc k (W.alloc (.cells #[.func (.func g) #[] lb, .func (.func sf) #[] sb] (ρ.t 42))) blk off dx wx → dx.size = d.size → a ≤ b → b ≤ d.size →
      Calls P (ρ.f 29) #[.agg #[.func (.func g) #[] lb, .func (.func sf) #[] sb], .int .i64 a, .int .i64 b] wx fun e w' => e = .returned (.tuple #[]) ∧ ∃ dy, PermIn a b dx dy ∧ SortedIn lt a b dy ∧ SWR enc k (W.alloc (.cells #[.func (.func g) #[] lb, .func (.func sf) #[] sb] (ρ.t 42))) blk off dy w') := fun a b dx wx hw hsx hab hb => by
    have hw0 := swr_trans hS hw hsx
    refine (insertion_K L29 hk g lb sf sb blk off a b dx wx eg (by rw [hsx]; exact hw0.lessG hless hsx) (by rw [hsx]; exact hswap) hw.held (hw0.lt hblk) hab (by omega) (by omega)).mono ?_
    rintro e w' ⟨rfl, h⟩
    have hi := insertionSort_holds hO dx a b hab (by omega)
    exact ⟨rfl, _, hi.1, hi.2, swr_trans hw h hi.1.1⟩
  have HMRG : Hid (∀ (a m b : Nat) (dx : Array α) (wx : World), SWR enc k (W.alloc (.cells #[.func (.func g) #[] lb, .func (.func sf) #[] sb] (ρ.t 42))) blk off dx wx → dx.size = d.size → a < m → m < b → b ≤ d.size → SortedIn lt a m dx → SortedIn lt m b dx →
      Calls P (ρ.f 30) #[.agg #[.func (.func g) #[] lb, .func (.func sf) #[] sb], .int .i64 a, .int .i64 m, .int .i64 b] wx fun e w' => e = .returned (.tuple #[]) ∧ ∃ dy, PermIn a b dx dy ∧ SortedIn lt a b dy ∧ SWR enc k (W.alloc (.cells #[.func (.func g) #[] lb, .func (.func sf) #[] sb] (ρ.t 42))) blk off dy w') := fun a m b dx wx hw hsx h1 h2 hb q1 q2 => by
    have hw0 := swr_trans hS hw hsx
    refine (symMerge_K L30 hO hk g lb sf sb blk off eg (b - a) a m b dx wx (Nat.le_refl _) (by rw [hsx]; exact hw0.lessG hless hsx) (by rw [hsx]; exact hswap) hw.held (hw0.lt hblk) h1 h2 (by omega) (by omega) q1 q2).mono ?_
    rintro e w' ⟨rfl, dy, hs, hp, h⟩
    exact ⟨rfl, dy, hp, hs, swr_trans hw h hp.1⟩
  clear hless hswap hH hS
  have hbne : W.heap.size ≠ blk := by omega
  go_enter L.f15, BodyGt.n15_ntmps ρ
  go_wp2
  refine wp_loop_rounds 3 ?_
  rw [rounds_succ]
  go_wp2_with (go_at_fn (ρ.f 29); refine (HINS.out 0 20 d _ (SWR.start HH1.out) rfl (by omega) (by omega)).mono ?_; rintro ee w1 ⟨rfl, d1, hP, hS, hw⟩; have z1 : d1.size = d.size := hP.1.trans rfl; have c0w1 : w1.cell? ⟨W.heap.size, 0, none⟩ = some (.func (.func g) #[] lb) := swr_cell hw hbne (by simp) (by simp); have c1w1 : w1.cell? ⟨W.heap.size, 1, none⟩ = some (.func (.func sf) #[] sb) := swr_cell hw hbne (by simp) (by simp); have H1 : Hid _ := hw; have P1 : Hid _ := hP; have S1 : Hid _ := hS; clear hP hS hw)
  rw [rounds_succ]
  go_wp2_with (go_at_fn (ρ.f 29); refine (HINS.out 20 40 d1 _ H1.out z1 (by omega) (by omega)).mono ?_; rintro ee w2 ⟨rfl, d2, hP, hS, hw⟩; have z2 : d2.size = d.size := hP.1.trans z1; have c0w2 : w2.cell? ⟨W.heap.size, 0, none⟩ = some (.func (.func g) #[] lb) := swr_cell hw hbne (by simp) (by simp); have c1w2 : w2.cell? ⟨W.heap.size, 1, none⟩ = some (.func (.func sf) #[] sb) := swr_cell hw hbne (by simp) (by simp); have H2 : Hid _ := hw; have P2 : Hid _ := hP; have S2 : Hid _ := hS; clear hP hS hw)
  rw [rounds_succ]
  go_wp2_with (go_at_fn (ρ.f 29); refine (HINS.out 40 40 d2 _ H2.out z2 (by omega) (by omega)).mono ?_; rintro ee w3 ⟨rfl, d3, hP, hS, hw⟩; have z3 : d3.size = d.size := hP.1.trans z2; have c0w3 : w3.cell? ⟨W.heap.size, 0, none⟩ = some (.func (.func g) #[] lb) := swr_cell hw hbne (by simp) (by simp); have c1w3 : w3.cell? ⟨W.heap.size, 1, none⟩ = some (.func (.func sf) #[] sb) := swr_cell hw hbne (by simp) (by simp); have H3 : Hid _ := hw; have P3 : Hid _ := hP; have S3 : Hid _ := hS; clear hP hS hw)
  refine wp_loop_rounds 2 ?_
  rw [rounds_succ]
  go_wp2
  refine wp_loop_rounds 2 ?_
  rw [rounds_succ]
  go_wp2_with (go_at_fn (ρ.f 30); refine (HMRG.out 0 20 40 d3 _ H3.out z3 (by omega) (by omega) (by omega) (permIn_sorted_other P3.out (permIn_sorted_other P2.out S1.out (Or.inl (Nat.le_refl _))) (Or.inl (by omega))) (permIn_sorted_other P3.out S2.out (Or.inl (Nat.le_refl _)))).mono ?_; rintro ee w4 ⟨rfl, d4, hP, hS, hw⟩; have z4 : d4.size = d.size := hP.1.trans z3; have c0w4 : w4.cell? ⟨W.heap.size, 0, none⟩ = some (.func (.func g) #[] lb) := swr_cell hw hbne (by simp) (by simp); have c1w4 : w4.cell? ⟨W.heap.size, 1, none⟩ = some (.func (.func sf) #[] sb) := swr_cell hw hbne (by simp) (by simp); have H4 : Hid _ := hw; have P4 : Hid _ := hP; have S4 : Hid _ := hS; clear hP hS hw)
  rw [rounds_succ]
  go_wp2
  rw [rounds_succ]
  go_wp2
  go_end0
  have e3 : d3 = d2 := Array.ext (z3.trans z2.symm) fun i h1 h2 => by
    have := P3.out.2.1 i (by omega)
    rwa [getElem!_pos d3 i h1, getElem!_pos d2 i h2] at this
  have p3 : PermIn 0 40 d2 d3 := by rw [e3]; exact permIn_refl d2 0 40
  rw [hn]
  exact ⟨rfl, d4, permIn_trans _ _ _ _ _ (permIn_mono _ _ _ _ _ _ (by omega) (by omega) (by omega) P1.out) (permIn_trans _ _ _ _ _ (permIn_mono _ _ _ _ _ _ (by omega) (by omega) (by omega) P2.out) (permIn_trans _ _ _ _ _ p3 P4.out)), S4.out, swr_trans HS.out H4.out z4⟩

/-- forty elements or fewer: a sorted permutation -/
theorem stable_K (L : LaysGt.n15 P ρ) (hO : SWO lt) (hk : ∀ x, (enc x).length = k) (g : Nat) (lb : Array Value) (sf : Nat) (sb : Array Value) (blk off : Nat) (d : Array α) (W : World)
    (eg : ∀ args w, (callFunc g args).run P w = .ok (.enter g args) w) (hless : LessG P g lb enc k lt blk off d.size W)
    (hswap : SwapSwapsK P sf sb enc k blk off d.size) (hH : HoldsK enc k W blk off d) (hblk : blk < W.heap.size) (hn : d.size ≤ 40) :
    Calls P (ρ.f 15) #[.agg #[.func (.func g) #[] lb, .func (.func sf) #[] sb], .int .i64 d.size] W fun e w' => e = .returned (.tuple #[]) ∧ ∃ d', PermIn 0 d.size d d' ∧ SortedIn lt 0 d.size d' ∧ SWR enc k W blk off d' w' := by
  rcases Nat.lt_trichotomy d.size 20 with h | h | h
  · exact stable_lt20 L hO hk g lb sf sb blk off d W eg hless hswap hH hblk h
  · exact stable_at20 L hO hk g lb sf sb blk off d W eg hless hswap hH hblk h
  · rcases Nat.lt_or_ge d.size 40 with h2 | h2
    · exact stable_lt40 L hO hk g lb sf sb blk off d W eg hless hswap hH hblk h h2
    · exact stable_at40 L hO hk g lb sf sb blk off d W eg hless hswap hH hblk (by omega)
end Go.Proofs.Ytmchkhjchpnmaaa
