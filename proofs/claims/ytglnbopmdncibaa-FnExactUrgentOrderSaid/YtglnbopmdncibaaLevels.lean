/- LevelsOf, of the program and of the reference: both hand back lvXs and lvCode. -/
import Derived.Test.YtglnbopmdncibaaReadyLifts
import Derived.Deep.LoopGhost
namespace Go.Proofs.Ytglnbopmdncibaa
open Go.RowKit
set_option linter.unusedVariables false

/-- the greatest level of the first j lifts in xs, 0 at least -/
def topTo (ls xs : List Int) : Nat → Int
  | 0 => 0
  | j + 1 => match xs[j]? with | some x => max (topTo ls xs j) (ls[x.toNat]?.getD 0) | none => topTo ls xs j
theorem topTo_succ {ls xs : List Int} {j : Nat} {x y : Int} (h : xs[j]? = some x) (hy : ls[x.toNat]? = some y) : topTo ls xs (j + 1) = max (topTo ls xs j) y := by simp [topTo, h, hy]
/-- the levels of the first k lifts -/
def lvTo (vs : List LV) : Nat → List Int
  | 0 => []
  | k + 1 => match vs[k]? with | some v => lvTo vs k ++ [topTo (lvTo vs k) v.2 v.2.length + 1] | none => lvTo vs k
theorem lvTo_succ {vs : List LV} {k : Nat} {v : LV} (h : vs[k]? = some v) : lvTo vs (k + 1) = lvTo vs k ++ [topTo (lvTo vs k) v.2 v.2.length + 1] := by simp only [lvTo, h]
theorem lvTo_len (vs : List LV) : ∀ k, k ≤ vs.length → (lvTo vs k).length = k
  | 0, _ => rfl
  | k + 1, h => by
    have hx : vs[k]? = some (vs[k]'(by omega)) := List.getElem?_eq_getElem _
    rw [lvTo_succ hx, List.length_append, lvTo_len vs k (by omega)]; rfl
theorem topTo_bd {ls xs : List Int} {M : Int} (hM : 0 ≤ M) (h : ∀ y ∈ ls, 0 ≤ y ∧ y ≤ M) : ∀ j, 0 ≤ topTo ls xs j ∧ topTo ls xs j ≤ M
  | 0 => by simp [topTo]; exact hM
  | j + 1 => by
    have ih := topTo_bd (xs := xs) hM h j
    unfold topTo
    split
    · next x hx =>
      have : 0 ≤ ls[x.toNat]?.getD 0 ∧ ls[x.toNat]?.getD 0 ≤ M := by
        cases hy : ls[x.toNat]? with
        | none => simp; exact hM
        | some y => simpa using h y (List.mem_of_getElem? hy)
      omega
    · exact ih
theorem lvTo_bd (vs : List LV) : ∀ k, k ≤ vs.length → ∀ y ∈ lvTo vs k, 0 ≤ y ∧ y ≤ (k : Int)
  | 0, _ => by simp [lvTo]
  | k + 1, h => by
    have hx : vs[k]? = some (vs[k]'(by omega)) := List.getElem?_eq_getElem _
    rw [lvTo_succ hx]
    intro y hy
    have ih := lvTo_bd vs k (by omega)
    rcases List.mem_append.1 hy with hy | hy
    · have := ih y hy; omega
    · have := topTo_bd (M := k) (by omega) ih (xs := (vs[k]'(by omega)).2) (vs[k]'(by omega)).2.length
      simp at hy; subst hy; omega
def lvXs (vs : List LV) : List Int := if liftsOk vs then lvTo vs vs.length else []
def lvCode (vs : List LV) : Int := if liftsOk vs then 0 else 1
theorem lvXs_len (vs : List LV) : (lvXs vs).length ≤ vs.length := by
  unfold lvXs; split
  · rw [lvTo_len vs _ (Nat.le_refl _)]; exact Nat.le_refl _
  · simp
/-- the numbers in a lift's After are those of lifts ahead of it -/
def Back (vs : List LV) : Prop := ∀ (k : Nat) (v : LV), vs[k]? = some v → ∀ x ∈ v.2, 0 ≤ x ∧ x < (k : Int)
theorem back_of {vs : List LV} (h : liftsOk vs = true) : Back vs := fun k v hv x hx => risesB_mem (liftsOk_at h hv).2 hx

theorem one_any (k : Int) (w : World) : Calls Try.prog 108 #[.int .i64 k] w fun e w' => e = .returned (.int .i64 1) ∧ w = w' := by
  go_enter Try.func108, Try.ntmps108
  go_wp2
  go_ret
  exact ⟨rfl, rfl⟩
set_option maxRecDepth 100000 in
set_option maxHeartbeats 1600000 in
theorem sums_any (A : Option Addr) (n c : Nat) (ps : List Lift) (vs : List LV) (hv : ps.map Lift.val = vs) (w : World) (lo : Nat) (h : Lifts w lo w.heap.size A n ps) (hn : n ≤ 1048576) (hk : Back vs) (hp : ∀ p ∈ ps, p.r.n ≤ 9223372036854775807) :
    Calls Try.prog 107 #[.slice A n c, .func (.func 108) #[] #[]] w (RetL ic 1 2 (lvTo vs n) w) := by
  have HV := Lib.hid hv
  have HK := Lib.hid hk
  have HP := Lib.hid hp
  have HL : Hid (vs.length = n) := by show _ = _; rw [lv_len hv, h.len]
  clear hv hk hp
  go_enter Try.func107, Try.ntmps107
  go_wp2
  go_loopw [5, 13] (fun v i wr => ∃ k : Nat, k ≤ n ∧ i = .int .i64 k ∧ Grow ic 1 wr w.heap.size 2 v (lvTo vs k) ∧ Below w.heap.size w wr) (fun _ i _ => n - (intOf i).toNat)
  case atStart => exact ⟨0, Nat.zero_le _, rfl, Grow.nil _ _ _, Below.refl _ _⟩
  case round =>
    obtain ⟨k, hk, rfl, hgr, hb⟩ := hrel
    by_cases hlt : k < n
    · obtain ⟨b, off, p, rfl, hx, _, hbl, hrow, c0, c1, c2, c3, c4, c5, c6, c7, c8⟩ := Lift.at (h.below hb) hlt
      have HX := Lib.hid (lv_at HV.out hx)
      have hpr := HP.out p (List.mem_of_getElem? hx)
      have hxs := HK.out k _ HX.out
      have HXS := Lib.hid hxs
      have HLV := Lib.hid (lvTo_succ HX.out)
      have hsz := hb.size
      have hll := lvTo_len vs k (by rw [HL.out]; omega)
      have HB := Lib.hid (lvTo_bd vs k (by rw [HL.out]; omega))
      obtain ⟨W, hW⟩ : ∃ W : World, W = wr.alloc (.cells #[.string p.v.name, .int .i64 p.v.weight, .int .i64 p.v.fx, .int .i64 p.v.fy, .int .i64 p.v.tx, .int .i64 p.v.ty, .int .i64 p.v.height, .int .i64 p.v.deadline, .slice p.r.a p.r.n p.r.cap] 95) := ⟨_, rfl⟩
      have hbW : Below wr.heap.size wr W := by rw [hW]; exact (Below.refl _ _).alloc (Nat.le_refl _) _
      have PB : Blk W wr.heap.size 95 #[.string p.v.name, .int .i64 p.v.weight, .int .i64 p.v.fx, .int .i64 p.v.fy, .int .i64 p.v.tx, .int .i64 p.v.ty, .int .i64 p.v.height, .int .i64 p.v.deadline, .slice p.r.a p.r.n p.r.cap] := by rw [hW]; exact Blk.new _ _ _
      have hbB := hb.trans (hbW.mono hsz)
      have hgW := hgr.bel hbW
      have hszW := hbB.size
      obtain ⟨d0, d1, d2, d3, d4, d5, d6, d7, d8⟩ := Lift.blk PB
      have hrowW := hrow.below (hbW.mono hsz)
      have HR := Lib.hid hrow.1
      dsimp only at HLV
      rw [HR.out] at HLV
      obtain ⟨A7, cap7, rfl, ho7⟩ := hgW.own ic_len
      have har := ho7.arr ic_len
      generalize hls : lvTo vs k = ls at *
      clear hx hrow hgr hb hxs PB hls
      rw [hll] at har hgW ⊢
      go_wp2_with fail
      rw [← hW]
      clear hW c0 c1 c2 c3 c4 c5 c6 c7 c8 hbW ho7
      go_wp2_with fail
      go_loop [8, 21] (fun v j => ∃ q : Nat, q ≤ p.r.n ∧ j = .int .i64 q ∧ v = .int .i64 (topTo ls p.r.xs q)) (fun _ j => p.r.n - (intOf j).toNat)
      case atStart => exact ⟨0, Nat.zero_le _, rfl, rfl⟩
      case round =>
        obtain ⟨q, hq, rfl, rfl⟩ := hrel
        have htb := topTo_bd (xs := p.r.xs) (M := k) (by omega) HB.out q
        by_cases hqn : q < p.r.n
        · obtain ⟨b4, off4, x, ea, hx4, _, _, e0⟩ := Ints.at hrowW hqn
          have hxb := HXS.out x (List.mem_of_getElem? hx4)
          obtain ⟨b5, off5, y, ea5, hx5, _, _, e5⟩ := Ints.at har (i := x.toNat) (by omega)
          have HT := Lib.hid (topTo_succ hx4 hx5)
          have hq1 : (q : Int) < (p.r.n : Int) := by omega
          have hx1 : x < (k : Int) := by omega
          clear hx4 hx5
          obtain ⟨t, ht⟩ : ∃ t, topTo ls p.r.xs q = t := ⟨_, rfl⟩
          rw [ht] at htb HT ⊢
          clear ht
          go_wp2
          go_round
          case rel => exact ⟨q + 1, by omega, by go_num, by rw [HT.out]; exact congrArg (Value.int .i64) (by split <;> omega)⟩
          case measure => simp [intOf]; omega
        · obtain rfl : q = p.r.n := by omega
          obtain ⟨t, ht⟩ : ∃ t, topTo ls p.r.xs p.r.n = t := ⟨_, rfl⟩
          rw [ht] at htb HLV ⊢
          clear ht
          go_wp2_with (first | (go_at_call 108; refine (one_any _ _).mono ?_; rintro _ _ ⟨rfl, rfl⟩) | (at_builtin; refine wpList_snoc _ rfl _ _ 63 rfl w.heap.size 2 (.int .i64 0) 8 Try.underlying63 infoInt rfl (by omega) _ _ (t + 1) rfl (hgW.alloc _) _ _ rfl (heap_alloc_new _ _) rfl rfl (ic_one _) (by omega) (by omega) (by simp; omega) ?_; intro v' w5 hg5 hgr5))
          go_roundw
          case rel => exact ⟨k + 1, by omega, by go_num, by rw [HLV.out]; exact hg5, (hgW.alloc _).below (hbB.alloc hszW _) hgr5 (Nat.le_refl _) (by simp; omega)⟩
          case measure => simp [intOf]; omega
    · obtain rfl : k = n := by omega
      go_wp2
      go_ret
      exact hgr.retl ic_len hb

set_option maxHeartbeats 800000 in
theorem levelsOf_any (A : Option Addr) (n c : Nat) (ps : List Lift) (vs : List LV) (hv : ps.map Lift.val = vs) (w : World) (lo : Nat) (h : Lifts w lo w.heap.size A n ps) (hn : n ≤ 1048576) (hp : ∀ p ∈ ps, p.wf) :
    Calls Try.prog 55 #[.slice A n c] w (RetS ic 1 2 (lvXs vs) (lvCode vs) w) := by
  have HL : Hid (vs.length = n) := by show _ = _; rw [lv_len hv, h.len]
  cases h1 : liftsOk vs
  · have H : Hid (lvXs vs = [] ∧ lvCode vs = 1) := by show _ ∧ _; unfold lvXs lvCode; rw [h1]; exact ⟨rfl, rfl⟩
    go_enter Try.func55, Try.ntmps55
    go_wp2_with fail
    refine (validLifts_any _ _ _ ps vs hv _ _ h hn hp).mono ?_
    rintro e w1 ⟨rfl, hb⟩
    go_wp2
    go_ret2
    rw [H.out.1, H.out.2]; exact RetS.nil hb
  · have H : Hid (lvXs vs = lvTo vs n ∧ lvCode vs = 0) := by show _ ∧ _; unfold lvXs lvCode; rw [h1, HL.out]; exact ⟨rfl, rfl⟩
    have H1 := Lib.hid h1
    go_enter Try.func55, Try.ntmps55
    go_wp2_with fail
    refine (validLifts_any _ _ _ ps vs hv _ _ h hn hp).mono ?_
    rintro e w1 ⟨rfl, hb⟩
    go_wp2_with fail
    refine (sums_any _ _ _ ps vs hv _ lo ((h.below hb).more hb.size) hn (back_of H1.out) (fun p hpp => (hp p hpp).n)).mono ?_
    rintro _ w2 ⟨A2, cp, rfl, ho, hb2⟩
    go_wp2
    go_ret2
    rw [H.out.1, H.out.2]; exact RetL.rets ho hb hb2

theorem l00Max_any (a b : Int) (w : World) : Calls Try.prog 106 #[.int .i64 a, .int .i64 b] w fun e w' => e = .returned (.int .i64 (max a b)) ∧ w = w' := by
  by_cases h : b < a
  · go_enter Try.func106, Try.ntmps106
    go_wp2
    go_ret
    exact ⟨ret_int (by omega), rfl⟩
  · go_enter Try.func106, Try.ntmps106
    go_wp2
    go_ret
    exact ⟨ret_int (by omega), rfl⟩
set_option maxRecDepth 100000 in
set_option maxHeartbeats 1600000 in
theorem specLevelsOf_any (A : Option Addr) (n c : Nat) (ps : List Lift) (vs : List LV) (hv : ps.map Lift.val = vs) (w : World) (lo : Nat) (h : Lifts w lo w.heap.size A n ps) (hn : n ≤ 1048576) (hc : n ≤ c) (hc2 : c ≤ 1048576) (hp : ∀ p ∈ ps, p.wf) :
    Calls Try.prog 54 #[.slice A n c] w (RetS ic 1 2 (lvXs vs) (lvCode vs) w) := by
  have HL : Hid (vs.length = n) := by show _ = _; rw [lv_len hv, h.len]
  cases h1 : liftsOk vs
  · have H : Hid (lvXs vs = [] ∧ lvCode vs = 1) := by show _ ∧ _; unfold lvXs lvCode; rw [h1]; exact ⟨rfl, rfl⟩
    go_enter Try.func54, Try.ntmps54
    go_wp2_with fail
    refine (l08Ok_any _ _ _ ps vs hv _ _ h hn hc hc2 hp).mono ?_
    rintro e w1 ⟨rfl, hb⟩
    go_wp2
    go_ret2
    rw [H.out.1, H.out.2]; exact RetS.nil hb
  · have H : Hid (lvXs vs = lvTo vs n ∧ lvCode vs = 0) := by show _ ∧ _; unfold lvXs lvCode; rw [h1, HL.out]; exact ⟨rfl, rfl⟩
    have HK := Lib.hid (back_of h1)
    have HV := Lib.hid hv
    have HP : Hid (∀ p ∈ ps, p.r.n ≤ 9223372036854775807) := fun p hpp => (hp p hpp).n
    go_enter Try.func54, Try.ntmps54
    go_wp2_with fail
    refine (l08Ok_any _ _ _ ps vs hv _ _ h hn hc hc2 hp).mono ?_
    rintro e w1 ⟨rfl, hb⟩
    clear hv hp
    go_wp2
    clear h1
    go_loopw [4, 5] (fun v i wr => ∃ k : Nat, k ≤ n ∧ i = .int .i64 k ∧ Grow ic 1 wr w.heap.size 2 v (lvTo vs k) ∧ Below w.heap.size w wr) (fun _ i _ => n - (intOf i).toNat)
    case atStart => exact ⟨0, Nat.zero_le _, rfl, Grow.empty _ _ _ hb.size, hb.alloc hb.size _⟩
    case round =>
      obtain ⟨k, hk, rfl, hgr, hb⟩ := hrel
      by_cases hlt : k < n
      · obtain ⟨b, off, p, rfl, hx, _, hbl, hrow, c0, c1, c2, c3, c4, c5, c6, c7, c8⟩ := Lift.at (h.below hb) hlt
        have HX := Lib.hid (lv_at HV.out hx)
        have hpr := HP.out p (List.mem_of_getElem? hx)
        have HXS := Lib.hid (HK.out k _ HX.out)
        have HLV := Lib.hid (lvTo_succ HX.out)
        have hsz := hb.size
        have hll := lvTo_len vs k (by rw [HL.out]; omega)
        have HB := Lib.hid (lvTo_bd vs k (by rw [HL.out]; omega))
        have HR := Lib.hid hrow.1
        have hkn : (k : Int) < (n : Int) := by omega
        dsimp only at HLV
        rw [HR.out] at HLV
        obtain ⟨A7, cap7, rfl, ho7⟩ := hgr.own ic_len
        have har := ho7.arr ic_len
        generalize hls : lvTo vs k = ls at *
        clear hx hls ho7 c0 c1 c2 c3 c4 c5 c6 c7
        rw [hll] at har hgr ⊢
        go_wp2
        go_loopg [6, 7] p.r.n (fun g2 v j wy => ∃ q : Nat, q + g2 = p.r.n ∧ j = .int .i64 q ∧ v = .int .i64 (topTo ls p.r.xs q + 1) ∧ wr = wy)
        case atStart => exact ⟨0, by omega, rfl, rfl, rfl⟩
        case round =>
          obtain ⟨q, hqg, rfl, rfl, rfl⟩ := hrel
          have htb := topTo_bd (xs := p.r.xs) (M := k) (by omega) HB.out q
          cases gk with
          | succ g2 =>
            have hqn : q < p.r.n := by omega
            obtain ⟨b4, off4, x, ea, hx4, _, _, e0⟩ := Ints.at hrow hqn
            have hxb := HXS.out x (List.mem_of_getElem? hx4)
            obtain ⟨b5, off5, y, ea5, hx5, _, _, e5⟩ := Ints.at har (i := x.toNat) (by omega)
            have HA4 := Lib.hid ea
            have HA5 := Lib.hid ea5
            have hyb := HB.out y (List.mem_of_getElem? hx5)
            have HT := Lib.hid (topTo_succ hx4 hx5)
            have hq1 : (q : Int) < (p.r.n : Int) := by omega
            have hx1 : x < (k : Int) := by omega
            clear hx4 hx5
            obtain ⟨t, ht⟩ : ∃ t, topTo ls p.r.xs q = t := ⟨_, rfl⟩
            rw [ht] at htb HT ⊢
            clear ht
            go_wp2_with (go_at_call 106; refine (l00Max_any _ _ _).mono ?_; rintro _ _ ⟨rfl, rfl⟩)
            rw [← HA4.out, ← HA5.out]
            go_roundg g2
            case measure => omega
            case rel => exact ⟨q + 1, by omega, by first | rfl | simp, by rw [HT.out]; try exact congrArg (Value.int .i64) (by omega), rfl⟩
          | zero =>
            obtain rfl : q = p.r.n := by omega
            obtain ⟨t, ht⟩ : ∃ t, topTo ls p.r.xs p.r.n = t := ⟨_, rfl⟩
            rw [ht] at htb HLV ⊢
            clear ht
            go_wp2_with ((at_builtin; refine wpList_snoc _ rfl _ _ 63 rfl w.heap.size 2 (.int .i64 0) 8 Try.underlying63 infoInt rfl (by omega) _ _ (t + 1) rfl (hgr.alloc _) _ _ rfl (heap_alloc_new _ _) rfl rfl (ic_one _) (by omega) (by omega) (by simp; omega) ?_; intro v' w5 hg5 hgr5))
            go_roundw
            case rel => exact ⟨k + 1, by omega, by go_num, by rw [HLV.out]; exact hg5, (hgr.alloc _).below (hb.alloc hsz _) hgr5 (Nat.le_refl _) (by simp; omega)⟩
            case measure => simp [intOf]; omega
      · obtain rfl : k = n := by omega
        go_wp2
        go_ret2
        rw [H.out.1, H.out.2]; exact hgr.rets ic_len hb
end Go.Proofs.Ytglnbopmdncibaa
