/- ready of the program, l08Can and l08Ready of the reference; ReadyLifts of both. -/
import Derived.Test.YtbklbhbjlbojdaaLifts2
import Derived.Test.YtbklbhbjlbojdaaSets
import Derived.Deep.LoopGhost
namespace Go.Proofs.Ytbklbhbjlbojdaa
open Go.RowKit Go.Sort
set_option linter.unusedVariables false

def inAt (xs : List Int) (m : Int) (j : Nat) : Bool := match xs[j]? with | some x => hasI m x | none => true
theorem inAt_of {xs : List Int} {m : Int} {j : Nat} {x : Int} (h : xs[j]? = some x) : inAt xs m j = hasI m x := by simp only [inAt, h]
/-- a lift can be done behind the set m -/
def canB (vs : List LV) (m : Int) (k : Nat) : Bool := match vs[k]? with | some v => !hasI m k && allTo (inAt v.2 m) v.2.length | none => false
theorem canB_of {vs : List LV} {m : Int} {k : Nat} {v : LV} (h : vs[k]? = some v) : canB vs m k = (!hasI m k && allTo (inAt v.2 m) v.2.length) := by simp only [canB, h]
def rdTo (vs : List LV) (m : Int) (k : Nat) : List Int := ((List.range k).filter (canB vs m)).map fun j : Nat => (j : Int)
theorem rdTo_yes {vs : List LV} {m : Int} {k : Nat} (h : canB vs m k = true) : rdTo vs m (k + 1) = rdTo vs m k ++ [(k : Int)] := by
  unfold rdTo; rw [List.range_succ, List.filter_append, List.map_append]; simp [h]
theorem rdTo_no {vs : List LV} {m : Int} {k : Nat} (h : canB vs m k = false) : rdTo vs m (k + 1) = rdTo vs m k := by
  unfold rdTo; rw [List.range_succ, List.filter_append, List.map_append]; simp [h]
theorem rdTo_len (vs : List LV) (m : Int) (k : Nat) : (rdTo vs m k).length ≤ k := by
  unfold rdTo; rw [List.length_map]; exact Nat.le_trans (List.length_filter_le _ _) (by simp)
theorem rdTo_mem {vs : List LV} {m : Int} {k : Nat} {x : Int} (h : x ∈ rdTo vs m k) : ∃ j : Nat, x = (j : Int) ∧ j < k ∧ canB vs m j = true := by
  unfold rdTo at h
  obtain ⟨j, hj, rfl⟩ := List.mem_map.1 h
  rw [List.mem_filter, List.mem_range] at hj
  exact ⟨j, rfl, hj.1, hj.2⟩
/-- the numbers in the lifts' After fit a set -/
def Fits (vs : List LV) : Prop := ∀ v ∈ vs, ∀ x ∈ v.2, 0 ≤ x ∧ x < 62
theorem fits_of {vs : List LV} (h : liftsOk vs = true) : Fits vs := by
  intro v hv x hx
  obtain ⟨j, hj, rfl⟩ := List.getElem_of_mem hv
  have h1 := liftsOk_at h (List.getElem?_eq_getElem hj)
  have h2 := risesB_mem h1.2 hx
  have := liftsOk_len h
  omega

set_option maxRecDepth 100000 in
set_option maxHeartbeats 1600000 in
theorem ready_anyC (A : Option Addr) (n c : Nat) (ps : List Lift) (vs : List LV) (hv : ps.map Lift.val = vs) (m : Int) (w : World) (lo : Nat) (h : Lifts w lo w.heap.size A n ps) (hn : n ≤ 62) (hf : Fits vs) (hm0 : 0 ≤ m) (hm : m < 4611686018427387904) (hp : ∀ p ∈ ps, p.r.n ≤ 9223372036854775807) :
    Calls Try.prog 229 #[.slice A n c, .int .i64 m] w (RetC ic 1 2 (rdTo vs m n) w) := by
  have HV := Lib.hid hv
  have HF := Lib.hid hf
  have HP := Lib.hid hp
  clear hv hf hp
  go_enter Try.func229, Try.ntmps229
  go_wp2
  go_step3
  go_wp2
  go_step3
  go_wp2
  go_loopg [5, 12] n (fun g v i wr => ∃ k : Nat, k + g = n ∧ i = .int .i64 k ∧ Grow ic 1 wr w.heap.size 2 v (rdTo vs m k) ∧ Below w.heap.size w wr)
  case atStart => exact ⟨0, by omega, rfl, Grow.nil _ _ _, Below.refl _ _⟩
  case round =>
    obtain ⟨k, hkg, rfl, hgr, hb⟩ := hrel
    cases gk with
    | zero =>
      obtain rfl : k = n := by omega
      go_wp2
      rw [Exit.noGoto_ret]
      go_ret
      exact hgr.retc ic_len hb
    | succ g =>
      have hlt : k < n := by omega
      obtain ⟨b, off, p, rfl, hx, _, hbl, hrow, c0, c1, c2, c3, c4, c5, c6, c7, c8⟩ := Lift.at (h.below hb) hlt
      have HX := Lib.hid (lv_at HV.out hx)
      have hpr := HP.out p (List.mem_of_getElem? hx)
      have hxs := HF.out _ (List.mem_of_getElem? HX.out)
      have HXS := Lib.hid hxs
      have hsz := hb.size
      have hll := rdTo_len vs m k
      have hkn : (k : Int) < (n : Int) := by omega
      obtain ⟨W, hW⟩ : ∃ W : World, W = wr.alloc (.cells #[.string p.v.name, .int .i64 p.v.weight, .int .i64 p.v.fx, .int .i64 p.v.fy, .int .i64 p.v.tx, .int .i64 p.v.ty, .int .i64 p.v.height, .int .i64 p.v.deadline, .slice p.r.a p.r.n p.r.cap] 36) := ⟨_, rfl⟩
      have hbW : Below wr.heap.size wr W := by rw [hW]; exact (Below.refl _ _).alloc (Nat.le_refl _) _
      have PB : Blk W wr.heap.size 36 #[.string p.v.name, .int .i64 p.v.weight, .int .i64 p.v.fx, .int .i64 p.v.fy, .int .i64 p.v.tx, .int .i64 p.v.ty, .int .i64 p.v.height, .int .i64 p.v.deadline, .slice p.r.a p.r.n p.r.cap] := by rw [hW]; exact Blk.new _ _ _
      have hbB := hb.trans (hbW.mono hsz)
      have hgW := hgr.bel hbW
      have hszW := hbB.size
      obtain ⟨d0, d1, d2, d3, d4, d5, d6, d7, d8⟩ := Lift.blk PB
      have hrowW := hrow.below (hbW.mono hsz)
      have HR := Lib.hid hrow.1
      clear hx hrow hgr hb hxs PB
      go_wp2_with fail
      rw [← hW]
      clear hW c0 c1 c2 c3 c4 c5 c6 c7 c8 hbW
      cases h1 : hasI m k
      · have H1 := Lib.hid h1
        go_wp2_with (go_at_call 281; refine (has_any _ _ hm0 hm (by omega) (by omega) _).mono ?_; rintro _ _ ⟨rfl, rfl⟩)
        clear h1
        go_loopg [23] p.r.n (fun g2 j wy => ∃ q : Nat, q + g2 = p.r.n ∧ j = .int .i64 q ∧ allTo (inAt p.r.xs m) q = true ∧ W = wy)
        case atStart => exact ⟨0, by omega, rfl, rfl, rfl⟩
        case round =>
          obtain ⟨q, hqg, rfl, hall, rfl⟩ := hrel
          have HA := Lib.hid hall
          clear hall
          cases gk with
          | zero =>
            obtain rfl : q = p.r.n := by omega
            have HC : Hid (canB vs m k = true) := by show _ = _; rw [canB_of HX.out, H1.out, HR.out, HA.out]; rfl
            go_wp2_with ((at_builtin; refine wpList_snoc _ rfl _ _ 25 rfl w.heap.size 2 (.int .i64 0) 8 Try.underlying25 infoInt rfl (by omega) _ _ (((k : Nat) : Int)) rfl (hgW.alloc _) _ _ rfl (heap_alloc_new _ _) rfl rfl (ic_one _) (by omega) (by omega) (by simp; omega) ?_; intro v' w5 hg5 hgr5))
            go_roundg g
            case measure => omega
            case rel => exact ⟨k + 1, by omega, by first | rfl | simp, by rw [rdTo_yes HC.out]; exact hg5, (hgW.alloc _).below (hbB.alloc hszW _) hgr5 (Nat.le_refl _) (by simp; omega)⟩
          | succ g2 =>
            have hq : q < p.r.n := by omega
            obtain ⟨b4, off4, x, ea, hx4, _, _, e0⟩ := Ints.at hrowW hq
            have HA4 := Lib.hid ea
            have HX4 := Lib.hid hx4
            have hxb := HXS.out x (List.mem_of_getElem? hx4)
            have hq1 : (q : Int) < (p.r.n : Int) := by omega
            clear hx4
            cases h2 : hasI m x
            · have HC : Hid (canB vs m k = false) := by
                show _ = _
                rw [canB_of HX.out, HR.out, allTo_bad hq (by rw [inAt_of HX4.out]; exact h2)]; simp
              go_wp2_with (go_at_call 281; refine (has_any _ _ hm0 hm (by omega) (by omega) _).mono ?_; rintro _ _ ⟨rfl, rfl⟩)
              go_roundg g
              case measure => omega
              case rel => exact ⟨k + 1, by omega, by first | rfl | simp, by rw [rdTo_no HC.out]; exact hgW, hbB⟩
            · have H2 := Lib.hid h2
              go_wp2_with (go_at_call 281; refine (has_any _ _ hm0 hm (by omega) (by omega) _).mono ?_; rintro _ _ ⟨rfl, rfl⟩)
              rw [← HA4.out]
              go_roundg g2
              case measure => omega
              case rel => exact ⟨q + 1, by omega, by first | rfl | simp, allTo_step HA.out (by rw [inAt_of HX4.out]; exact H2.out), rfl⟩
      · have HC : Hid (canB vs m k = false) := by show _ = _; rw [canB_of HX.out, h1]; rfl
        go_wp2_with (go_at_call 281; refine (has_any _ _ hm0 hm (by omega) (by omega) _).mono ?_; rintro _ _ ⟨rfl, rfl⟩)
        go_roundg g
        case measure => omega
        case rel => exact ⟨k + 1, by omega, by first | rfl | simp, by rw [rdTo_no HC.out]; exact hgW, hbB⟩

theorem ready_any (A : Option Addr) (n c : Nat) (ps : List Lift) (vs : List LV) (hv : ps.map Lift.val = vs) (m : Int) (w : World) (lo : Nat) (h : Lifts w lo w.heap.size A n ps) (hn : n ≤ 62) (hf : Fits vs) (hm0 : 0 ≤ m) (hm : m < 4611686018427387904) (hp : ∀ p ∈ ps, p.r.n ≤ 9223372036854775807) :
    Calls Try.prog 229 #[.slice A n c, .int .i64 m] w (RetL ic 1 2 (rdTo vs m n) w) := (ready_anyC A n c ps vs hv m w lo h hn hf hm0 hm hp).mono fun _ _ h => h.retl
end Go.Proofs.Ytbklbhbjlbojdaa
