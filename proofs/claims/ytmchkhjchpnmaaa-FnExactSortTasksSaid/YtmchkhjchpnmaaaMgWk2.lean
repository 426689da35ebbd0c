/- sort.symMerge_func at elements of k cells: a single against a sorted range. -/
import Derived.Test.YtmchkhjchpnmaaaMgWk1
namespace Go.Proofs.Ytmchkhjchpnmaaa
open Go.Proofs Go.Shelf Go.RowKit Go.Lib Go.Sort
set_option linter.unusedVariables false
set_option linter.unusedSectionVars false
variable {P : Program} {ρ : Ren} {α : Type} [Inhabited α] {enc : α → List Value} {k : Nat} {lt : α → α → Bool}

theorem lt_up (h : SWO lt) {d : Array α} {lo hi c x : Nat} {v : α} (hs : SortedIn lt lo hi d) (hx : lo ≤ x) (hxc : x ≤ c) (hc : c < hi) (ht : lt d[c]! v = true) : lt d[x]! v = true := by
  cases e : lt d[x]! v with
  | true => rfl
  | false => exact absurd (h.ntrans _ _ _ (sorted_le h hs hx hxc hc) e) (by rw [ht]; decide)
theorem lt_down (h : SWO lt) {d : Array α} {lo hi c x : Nat} {v : α} (hs : SortedIn lt lo hi d) (hx : lo ≤ c) (hxc : c ≤ x) (hc : x < hi) (ht : lt d[c]! v = false) : lt d[x]! v = false :=
  h.ntrans _ _ _ (sorted_le h hs hx hxc hc) ht
theorem gt_up (h : SWO lt) {d : Array α} {lo hi c x : Nat} {v : α} (hs : SortedIn lt lo hi d) (hx : lo ≤ x) (hxc : x ≤ c) (hc : c < hi) (ht : lt v d[c]! = false) : lt v d[x]! = false :=
  h.ntrans _ _ _ ht (sorted_le h hs hx hxc hc)
theorem gt_down (h : SWO lt) {d : Array α} {lo hi c x : Nat} {v : α} (hs : SortedIn lt lo hi d) (hx : lo ≤ c) (hxc : c ≤ x) (hc : x < hi) (ht : lt v d[c]! = true) : lt v d[x]! = true := by
  cases e : lt v d[x]! with
  | true => rfl
  | false => exact absurd (h.ntrans _ _ _ e (sorted_le h hs hx hxc hc)) (by rw [ht]; decide)

set_option maxHeartbeats 2000000 in
set_option maxRecDepth 100000 in
theorem symMerge_left (L : LaysGt.n30 P ρ) (hO : SWO lt) (hk : ∀ x, (enc x).length = k) (g : Nat) (lb : Array Value) (sf : Nat) (sb : Array Value) (blk off a m b : Nat) (d : Array α) (W : World)
    (eg : ∀ args w, (callFunc g args).run P w = .ok (.enter g args) w) (hless : LessG P g lb enc k lt blk off d.size W)
    (hswap : SwapSwapsK P sf sb enc k blk off d.size) (hH : HoldsK enc k W blk off d) (hblk : blk < W.heap.size) (hm : m = a + 1) (hmb : m ≤ b) (hb : b ≤ d.size) (hsz : d.size < 4611686018427387904) (hs : SortedIn lt m b d) :
    Calls P (ρ.f 30) #[.agg #[.func (.func g) #[] lb, .func (.func sf) #[] sb], .int .i64 a, .int .i64 m, .int .i64 b] W fun e w' => e = .returned (.tuple #[]) ∧ ∃ d', SortedIn lt a b d' ∧ PermIn a b d d' ∧ SWR enc k W blk off d' w' := by
  have mixed := L.mixed; have t0 := L.t0; have a0 := L.a0; have z0 := L.z0; have v0 := L.v0; have t3 := L.t3; have a3 := L.a3; have z3 := L.z3; have v3 := L.v3; have t4 := L.t4; have a4 := L.a4; have z4 := L.z4; have v4 := L.v4; have t26 := L.t26; have a26 := L.a26; have z26 := L.z26; have v26 := L.v26; have t38 := L.t38; have a38 := L.a38; have z38 := L.z38; have v38 := L.v38; have t42 := L.t42; have a42 := L.a42; have z42 := L.z42; have v42 := L.v42; have t47 := L.t47; have a47 := L.a47; have z47 := L.z47; have v47 := L.v47
  have u42 := run_underlying L.t42
  have hS := (SWR.start hH).alloc hblk (.cells #[.func (.func g) #[] lb, .func (.func sf) #[] sb] (ρ.t 42))
  have HS : Hid _ := hS
  have hH1 : HoldsK enc k (W.alloc (.cells #[.func (.func g) #[] lb, .func (.func sf) #[] sb] (ρ.t 42))) blk off d := hS.held
  have HH1 : Hid _ := hH1
  have HL : Hid (LessG P g lb enc k lt blk off d.size W) := hless
  have HO : Hid (SWO lt) := hO
  have HSo : Hid (SortedIn lt m b d) := hs
  clear hH hS hH1 hless hO hs
  have hbne : W.heap.size ≠ blk := by omega
  go_enter L.f30, BodyGt.n30_ntmps ρ
  have hg : (m : Int) - a = 1 := by omega
  have HM : Hid (m = a + 1) := hm
  clear hm
  go_wp2
  clear hg
  go_loopw [8, 9] (fun vi vj wr => ∃ (i j : Nat), vi = .int .i64 i ∧ vj = .int .i64 j ∧ m ≤ i ∧ i ≤ j ∧ j ≤ b ∧ (∀ x, m ≤ x → x < i → lt d[x]! d[a]! = true) ∧ (∀ x, j ≤ x → x < b → lt d[x]! d[a]! = false) ∧ SWR enc k (W.alloc (.cells #[.func (.func g) #[] lb, .func (.func sf) #[] sb] (ρ.t 42))) blk off d wr) (fun vi vj _ => (intOf vj).toNat - (intOf vi).toNat)
  case atStart => exact ⟨m, b, rfl, rfl, Nat.le_refl _, hmb, Nat.le_refl _, fun x h1 h2 => by omega, fun x h1 h2 => by omega, SWR.start HH1.out⟩
  case round =>
    have ham : a < m := by have := HM.out; omega
    obtain ⟨i, j, rfl, rfl, hmi, hij, hjb, hlo, hhi, hw⟩ := hrel
    have hw0 : SWR enc k W blk off d wr := swr_trans HS.out hw rfl
    have c0 : wr.cell? ⟨W.heap.size, 0, none⟩ = some (.func (.func g) #[] lb) := swr_cell hw hbne (by simp) (by simp)
    have c1 : wr.cell? ⟨W.heap.size, 1, none⟩ = some (.func (.func sf) #[] sb) := swr_cell hw hbne (by simp) (by simp)
    have HW1 : Hid _ := hw
    have HW0 : Hid _ := hw0
    have HLO : Hid _ := hlo
    have HHI : Hid _ := hhi
    clear hw hw0 hlo hhi
    by_cases hlt : i < j
    · have hl := SWR.less HW0.out HL.out rfl ((i + j) / 2) a (by omega) (by omega)
      cases hlv : lt d[(i + j) / 2]! d[a]! with
      | true =>
        rw [hlv] at hl
        go_wp2_with (go_at_fn g; refine hl.mono ?_; rintro e w' ⟨rfl, hbw⟩)
        go_roundw
        case rel => exact ⟨(i + j) / 2 + 1, j, by go_num, rfl, by omega, by omega, hjb, fun x h1 h2 => lt_up HO.out HSo.out h1 (by omega) (by omega) hlv, HHI.out, SWR.below HW1.out (by simp; omega) hbw⟩
        case measure => simp [intOf]; omega
      | false =>
        rw [hlv] at hl
        go_wp2_with (go_at_fn g; refine hl.mono ?_; rintro e w' ⟨rfl, hbw⟩)
        go_roundw
        case rel => exact ⟨i, (i + j) / 2, rfl, by go_num, hmi, by omega, by omega, HLO.out, fun x h1 h2 => lt_down HO.out HSo.out (by omega) h1 h2 hlv, SWR.below HW1.out (by simp; omega) hbw⟩
        case measure => simp [intOf]; omega
    · have hij2 : i = j := by omega
      subst hij2
      go_wp2
      go_loopw [11] (fun vk wr2 => ∃ (c : Nat) (dk : Array α), vk = .int .i64 c ∧ a ≤ c ∧ c + 1 ≤ i ∧ RotIn a (a + 1) (c + 1) d dk ∧ PermIn a b d dk ∧ SWR enc k (W.alloc (.cells #[.func (.func g) #[] lb, .func (.func sf) #[] sb] (ρ.t 42))) blk off dk wr2) (fun vk _ => i - (intOf vk).toNat)
      case atStart => exact ⟨a, d, rfl, Nat.le_refl _, by omega, rot_none a (a + 1) d, permIn_refl d _ _, HW1.out⟩
      case round =>
        obtain ⟨c, dk, rfl, hac, hci, hR, hP, hw⟩ := hrel
        have hsk := hR.1
        have HR2 : Hid _ := hR
        have HP2 : Hid (PermIn a b d dk) := hP
        have HW3 : Hid _ := hw
        have c2 : wr.cell? ⟨W.heap.size, 0, none⟩ = some (.func (.func g) #[] lb) := swr_cell hw hbne (by simp) (by simp)
        have c3 : wr.cell? ⟨W.heap.size, 1, none⟩ = some (.func (.func sf) #[] sb) := swr_cell hw hbne (by simp) (by simp)
        have hx := hswap wr dk (hw.held) hsk c (c + 1)
        have HX : Hid _ := hx
        clear hw hR hP hx
        by_cases hlt2 : c < i - 1
        · have hs := HX.out (by omega) (by omega)
          rw [show ((c + 1 : Nat) : Int) = (c : Int) + 1 by omega] at hs
          go_wp2
          refine ⟨⟨c + 1, swp dk c (c + 1), by go_num, by omega, by omega, rot_up HR2.out hac (by omega), permIn_trans _ _ _ _ _ HP2.out (swp_permIn _ _ _ _ _ (by omega) (by omega) (by omega) (by omega) (by omega)), ?_⟩, ?_⟩
          · exact SWR.swap HW3.out hk c (c + 1) (by omega) (by omega)
          · simp [intOf]; omega
        · go_wp2
          (try simp only [Exit.inBlock, Exit.then]); refine bodyPost_ret (results_none rfl _ _ _) rfl ?_
          have hci2 : c + 1 = i := by omega
          refine ⟨rfl, dk, ?_, HP2.out, swr_trans HS.out HW3.out hsk⟩
          have hr := HR2.out
          rw [hci2] at hr
          have hm := HM.out
          have hso := HSo.out
          have hlo2 := HLO.out
          rw [hm] at hso hmi hlo2
          exact merge_left HO.out hso hmi hjb hlo2 HHI.out hr
set_option maxHeartbeats 2000000 in
set_option maxRecDepth 100000 in
theorem symMerge_right (L : LaysGt.n30 P ρ) (hO : SWO lt) (hk : ∀ x, (enc x).length = k) (g : Nat) (lb : Array Value) (sf : Nat) (sb : Array Value) (blk off a m b : Nat) (d : Array α) (W : World)
    (eg : ∀ args w, (callFunc g args).run P w = .ok (.enter g args) w) (hless : LessG P g lb enc k lt blk off d.size W)
    (hswap : SwapSwapsK P sf sb enc k blk off d.size) (hH : HoldsK enc k W blk off d) (hblk : blk < W.heap.size) (hne : m ≠ a + 1) (ham : a ≤ m) (hm : b = m + 1) (hb : b ≤ d.size) (hsz : d.size < 4611686018427387904) (hs : SortedIn lt a m d) :
    Calls P (ρ.f 30) #[.agg #[.func (.func g) #[] lb, .func (.func sf) #[] sb], .int .i64 a, .int .i64 m, .int .i64 b] W fun e w' => e = .returned (.tuple #[]) ∧ ∃ d', SortedIn lt a b d' ∧ PermIn a b d d' ∧ SWR enc k W blk off d' w' := by
  have mixed := L.mixed; have t0 := L.t0; have a0 := L.a0; have z0 := L.z0; have v0 := L.v0; have t3 := L.t3; have a3 := L.a3; have z3 := L.z3; have v3 := L.v3; have t4 := L.t4; have a4 := L.a4; have z4 := L.z4; have v4 := L.v4; have t26 := L.t26; have a26 := L.a26; have z26 := L.z26; have v26 := L.v26; have t38 := L.t38; have a38 := L.a38; have z38 := L.z38; have v38 := L.v38; have t42 := L.t42; have a42 := L.a42; have z42 := L.z42; have v42 := L.v42; have t47 := L.t47; have a47 := L.a47; have z47 := L.z47; have v47 := L.v47
  have u42 := run_underlying L.t42
  have hS := (SWR.start hH).alloc hblk (.cells #[.func (.func g) #[] lb, .func (.func sf) #[] sb] (ρ.t 42))
  have HS : Hid _ := hS
  have hH1 : HoldsK enc k (W.alloc (.cells #[.func (.func g) #[] lb, .func (.func sf) #[] sb] (ρ.t 42))) blk off d := hS.held
  have HH1 : Hid _ := hH1
  have HL : Hid (LessG P g lb enc k lt blk off d.size W) := hless
  have HO : Hid (SWO lt) := hO
  have HSo : Hid (SortedIn lt a m d) := hs
  clear hH hS hH1 hless hO hs
  have hbne : W.heap.size ≠ blk := by omega
  go_enter L.f30, BodyGt.n30_ntmps ρ
  have hg0 : ¬ (m : Int) - a = 1 := by omega
  have hg : (b : Int) - m = 1 := by omega
  have HM : Hid (b = m + 1) := hm
  have HN : Hid (m ≠ a + 1) := hne
  clear hm hne
  go_wp2
  clear hg
  go_loopw [12, 13] (fun vi vj wr => ∃ (i j : Nat), vi = .int .i64 i ∧ vj = .int .i64 j ∧ a ≤ i ∧ i ≤ j ∧ j ≤ m ∧ (∀ x, a ≤ x → x < i → lt d[m]! d[x]! = false) ∧ (∀ x, j ≤ x → x < m → lt d[m]! d[x]! = true) ∧ SWR enc k (W.alloc (.cells #[.func (.func g) #[] lb, .func (.func sf) #[] sb] (ρ.t 42))) blk off d wr) (fun vi vj _ => (intOf vj).toNat - (intOf vi).toNat)
  case atStart => exact ⟨a, m, rfl, rfl, Nat.le_refl _, ham, Nat.le_refl _, fun x h1 h2 => by omega, fun x h1 h2 => by omega, SWR.start HH1.out⟩
  case round =>
    have hbm : m < b := by have := HM.out; omega
    obtain ⟨i, j, rfl, rfl, hmi, hij, hjb, hlo, hhi, hw⟩ := hrel
    have hw0 : SWR enc k W blk off d wr := swr_trans HS.out hw rfl
    have c0 : wr.cell? ⟨W.heap.size, 0, none⟩ = some (.func (.func g) #[] lb) := swr_cell hw hbne (by simp) (by simp)
    have c1 : wr.cell? ⟨W.heap.size, 1, none⟩ = some (.func (.func sf) #[] sb) := swr_cell hw hbne (by simp) (by simp)
    have HW1 : Hid _ := hw
    have HW0 : Hid _ := hw0
    have HLO : Hid _ := hlo
    have HHI : Hid _ := hhi
    clear hw hw0 hlo hhi
    by_cases hlt : i < j
    · have hl := SWR.less HW0.out HL.out rfl m ((i + j) / 2) (by omega) (by omega)
      cases hlv : lt d[m]! d[(i + j) / 2]! with
      | false =>
        rw [hlv] at hl
        go_wp2_with (go_at_fn g; refine hl.mono ?_; rintro e w' ⟨rfl, hbw⟩)
        go_roundw
        case rel =>
          (repeat apply Exists.intro)
          refine ⟨⟨(i + j) / 2 + 1, j, by go_num, rfl, by omega, by omega, hjb, fun x h1 h2 => gt_up HO.out HSo.out h1 (by omega) (by omega) hlv, HHI.out, SWR.below HW1.out (by simp; omega) hbw⟩, ?_⟩
          simp [hg0]
          (repeat' apply And.intro) <;> rfl
        case measure => simp [intOf]; omega
      | true =>
        rw [hlv] at hl
        go_wp2_with (go_at_fn g; refine hl.mono ?_; rintro e w' ⟨rfl, hbw⟩)
        go_roundw
        case rel =>
          (repeat apply Exists.intro)
          refine ⟨⟨i, (i + j) / 2, rfl, by go_num, hmi, by omega, by omega, HLO.out, fun x h1 h2 => gt_down HO.out HSo.out (by omega) h1 h2 hlv, SWR.below HW1.out (by simp; omega) hbw⟩, ?_⟩
          simp [hg0]
          (repeat' apply And.intro) <;> rfl
        case measure => simp [intOf]; omega
    · have hij2 : i = j := by omega
      subst hij2
      go_wp2
      go_loopw [15] (fun vk wr2 => ∃ (c : Nat) (dk : Array α), vk = .int .i64 c ∧ i ≤ c ∧ c ≤ m ∧ RotIn c m (m + 1) d dk ∧ PermIn a b d dk ∧ SWR enc k (W.alloc (.cells #[.func (.func g) #[] lb, .func (.func sf) #[] sb] (ρ.t 42))) blk off dk wr2) (fun vk _ => (intOf vk).toNat)
      case atStart => exact ⟨m, d, rfl, by omega, Nat.le_refl _, rot_none' m (m + 1) (by omega) d, permIn_refl d _ _, HW1.out⟩
      case round =>
        obtain ⟨c, dk, rfl, hac, hci, hR, hP, hw⟩ := hrel
        have hsk := hR.1
        have HR2 : Hid _ := hR
        have HP2 : Hid (PermIn a b d dk) := hP
        have HW3 : Hid _ := hw
        have c2 : wr.cell? ⟨W.heap.size, 0, none⟩ = some (.func (.func g) #[] lb) := swr_cell hw hbne (by simp) (by simp)
        have c3 : wr.cell? ⟨W.heap.size, 1, none⟩ = some (.func (.func sf) #[] sb) := swr_cell hw hbne (by simp) (by simp)
        have hx := hswap wr dk (hw.held) hsk c (c - 1)
        have HX : Hid _ := hx
        clear hw hR hP hx
        by_cases hlt2 : i < c
        · have hs := HX.out (by omega) (by omega)
          rw [show ((c - 1 : Nat) : Int) = (c : Int) - 1 by omega] at hs
          go_wp2
          refine ⟨⟨c - 1, swp dk c (c - 1), by congr 1; omega, by omega, by omega, ?_, permIn_trans _ _ _ _ _ HP2.out (swp_permIn _ _ _ _ _ (by omega) (by omega) (by omega) (by omega) (by omega)), ?_⟩, ?_⟩
          · have hr := HR2.out
            obtain ⟨e, rfl⟩ : ∃ e, c = e + 1 := ⟨c - 1, by omega⟩
            exact rot_down hr hci (by omega)
          · exact SWR.swap HW3.out hk c (c - 1) (by omega) (by omega)
          · simp [intOf]; omega
        · go_wp2
          (try simp only [Exit.inBlock, Exit.then]); refine bodyPost_ret (results_none rfl _ _ _) rfl ?_
          obtain rfl : c = i := by omega
          refine ⟨rfl, dk, ?_, HP2.out, swr_trans HS.out HW3.out hsk⟩
          rw [HM.out]
          exact merge_right HO.out HSo.out (by omega) hci HLO.out HHI.out HR2.out
end Go.Proofs.Ytmchkhjchpnmaaa
