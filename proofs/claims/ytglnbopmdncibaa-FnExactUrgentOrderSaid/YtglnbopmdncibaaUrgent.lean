/- UrgentOrder, of the program and of the reference: both hand back urXs and urCode. -/
import Derived.Test.YtglnbopmdncibaaReadyLifts
import Derived.Test.YtglnbopmdncibaaLevels
import Derived.Test.YtglnbopmdncibaaIntSet
import Derived.Deep.LoopGhost
namespace Go.Proofs.Ytglnbopmdncibaa
open Go.RowKit
set_option linter.unusedVariables false

def dlOf (vs : List LV) (x : Int) : Int := match vs[x.toNat]? with | some v => v.1.deadline | none => 0
theorem dlOf_of {vs : List LV} {k : Nat} {v : LV} (h : vs[k]? = some v) : dlOf vs (k : Int) = v.1.deadline := by simp [dlOf, h]
/-- the best of the first j + 1 numbers of rs: the first one with the least deadline -/
def bestTo (vs : List LV) (rs : List Int) : Nat → Int
  | 0 => rs[0]?.getD 0
  | j + 1 => match rs[j + 1]? with | some x => if dlOf vs x < dlOf vs (bestTo vs rs j) then x else bestTo vs rs j | none => bestTo vs rs j
theorem bestTo_succ {vs : List LV} {rs : List Int} {j : Nat} {x : Int} (h : rs[j + 1]? = some x) : bestTo vs rs (j + 1) = if dlOf vs x < dlOf vs (bestTo vs rs j) then x else bestTo vs rs j := by simp only [bestTo, h]
theorem bestTo_mem {vs : List LV} {rs : List Int} (h : 0 < rs.length) : ∀ j, bestTo vs rs j ∈ rs
  | 0 => by
    unfold bestTo
    rw [List.getElem?_eq_getElem h]; exact List.getElem_mem _
  | j + 1 => by
    have ih := bestTo_mem (vs := vs) h j
    unfold bestTo
    split
    · next x hx => split
                   · exact List.mem_of_getElem? hx
                   · exact ih
    · exact ih
/-- the first t lifts of the order, and the set of them -/
def urg (vs : List LV) (n : Nat) : Nat → List Int × Int
  | 0 => ([], 0)
  | t + 1 => ((urg vs n t).1 ++ [bestTo vs (rdTo vs (urg vs n t).2 n) ((rdTo vs (urg vs n t).2 n).length - 1)], withI (urg vs n t).2 (bestTo vs (rdTo vs (urg vs n t).2 n) ((rdTo vs (urg vs n t).2 n).length - 1)))
theorem urg_len (vs : List LV) (n : Nat) : ∀ t, (urg vs n t).1.length = t
  | 0 => rfl
  | t + 1 => by unfold urg; rw [List.length_append, urg_len vs n t]; rfl
theorem cnt_gap {S : Int → Bool} : ∀ n : Nat, cntTo S n < n → ∃ k : Nat, k < n ∧ S k = false
  | 0, h => absurd h (by omega)
  | n + 1, h => by
    simp only [cntTo] at h
    cases hs : S (n : Int) with
    | false => exact ⟨n, by omega, hs⟩
    | true =>
      rw [hs] at h
      obtain ⟨k, hk, h2⟩ := cnt_gap n (by simpa using h)
      exact ⟨k, by omega, h2⟩
/-- some lift can be done if one is not done -/
theorem can_some {vs : List LV} (hb : Back vs) {m : Int} : ∀ k : Nat, k < vs.length → hasI m k = false → ∃ j : Nat, j < vs.length ∧ canB vs m j = true := by
  intro k
  induction k using Nat.strongRecOn with
  | _ k ih =>
    intro hk hm
    have hx : vs[k]? = some (vs[k]'hk) := List.getElem?_eq_getElem _
    cases ha : allTo (inAt (vs[k]'hk).2 m) (vs[k]'hk).2.length with
    | true => exact ⟨k, hk, by rw [canB_of hx, hm, ha]; rfl⟩
    | false =>
      have : ¬ ∀ j, j < (vs[k]'hk).2.length → inAt (vs[k]'hk).2 m j = true := by intro h; rw [allTo_iff.2 h] at ha; cases ha
      have : ∃ j, j < (vs[k]'hk).2.length ∧ inAt (vs[k]'hk).2 m j = false := by
        apply Classical.byContradiction
        intro hno
        apply this
        intro j hj
        cases hq : inAt (vs[k]'hk).2 m j with
        | true => rfl
        | false => exact absurd ⟨j, hj, hq⟩ hno
      obtain ⟨j, hj, hq⟩ := this
      have hy : (vs[k]'hk).2[j]? = some ((vs[k]'hk).2[j]'hj) := List.getElem?_eq_getElem _
      rw [inAt_of hy] at hq
      have h2 := hb k _ hx _ (List.getElem_mem hj)
      obtain ⟨i, hi⟩ := Int.eq_ofNat_of_zero_le h2.1
      rw [hi] at hq h2
      exact ih i (by omega) (by omega) hq
theorem canB_has {vs : List LV} {m : Int} {k : Nat} (h : canB vs m k = true) : hasI m k = false := by
  unfold canB at h
  split at h
  · rw [Bool.and_eq_true] at h; simpa using h.1
  · cases h
/-- what holds behind t rounds -/
theorem urg_inv {vs : List LV} (hb : Back vs) (hn : vs.length ≤ 10) : ∀ t, t ≤ vs.length → 0 ≤ (urg vs vs.length t).2 ∧ (urg vs vs.length t).2 < 1024 ∧ cntTo (hasI (urg vs vs.length t).2) vs.length = t
  | 0, _ => by
    refine ⟨by simp [urg], by simp [urg], ?_⟩
    have : hasI (urg vs vs.length 0).2 = fun _ => false := funext fun j => hasI_zero j
    rw [this, cntTo_none]
  | t + 1, ht => by
    obtain ⟨h0, h1, hc⟩ := urg_inv hb hn t (by omega)
    obtain ⟨k, hk, hk2⟩ := cnt_gap vs.length (by rw [hc]; omega)
    obtain ⟨j, hj, hcan⟩ := can_some hb k hk hk2
    have hne : 0 < (rdTo vs (urg vs vs.length t).2 vs.length).length := by
      apply List.length_pos_of_mem (a := (j : Int))
      unfold rdTo
      exact List.mem_map.2 ⟨j, by rw [List.mem_filter, List.mem_range]; exact ⟨hj, hcan⟩, rfl⟩
    obtain ⟨i, hi, hil, hic⟩ := rdTo_mem (bestTo_mem (vs := vs) hne ((rdTo vs (urg vs vs.length t).2 vs.length).length - 1))
    have hno := canB_has hic
    have e : (urg vs vs.length (t + 1)).2 = withI (urg vs vs.length t).2 (i : Int) := by rw [← hi]; rfl
    rw [e]
    have h3 := withI_lt (m := (urg vs vs.length t).2) (k := (i : Int)) (n := 10) h0 (by simpa using h1) (by omega) (by omega)
    refine ⟨withI_nonneg _ _, by simpa using h3, ?_⟩
    rw [cntTo_same (S' := fun r => decide (r = (i : Int)) || hasI (urg vs vs.length t).2 r) vs.length (fun q hq => by rw [hasI_with _ _ _ (by omega) (by omega), Bool.or_comm]), cntTo_new hno vs.length hil, hc]
theorem urg_ready {vs : List LV} (hb : Back vs) (hn : vs.length ≤ 10) {t : Nat} (ht : t < vs.length) : 0 < (rdTo vs (urg vs vs.length t).2 vs.length).length := by
  obtain ⟨h0, h1, hc⟩ := urg_inv hb hn t (by omega)
  obtain ⟨k, hk, hk2⟩ := cnt_gap vs.length (by rw [hc]; omega)
  obtain ⟨j, hj, hcan⟩ := can_some hb k hk hk2
  apply List.length_pos_of_mem (a := (j : Int))
  unfold rdTo
  exact List.mem_map.2 ⟨j, by rw [List.mem_filter, List.mem_range]; exact ⟨hj, hcan⟩, rfl⟩
def urXs (vs : List LV) : List Int := if liftsOk vs then (urg vs vs.length vs.length).1 else []
def urCode (vs : List LV) : Int := if liftsOk vs then 0 else 1
theorem urXs_len (vs : List LV) : (urXs vs).length ≤ vs.length := by
  unfold urXs; split
  · rw [urg_len]; exact Nat.le_refl _
  · simp

/-- the box of the list that the closure captured -/
theorem less_any (A : Option Addr) (n c : Nat) (ps : List Lift) (vs : List LV) (hv : ps.map Lift.val = vs) (a b : Nat) (g : Nat) (w : World) (lo hi : Nat) (h : Lifts w lo hi A n ps) (ha : a < n) (hb : b < n) (hn : n ≤ 1048576) (hg : w.cell? ⟨g, 0, none⟩ = some (.slice A n c)) :
    Calls Try.prog 148 #[.int .i64 a, .int .i64 b, .pointer (some ⟨g, 0, none⟩)] w fun e w' => e = .returned (.bool (decide (dlOf vs a < dlOf vs b))) ∧ Below w.heap.size w w' := by
  obtain ⟨b1, off1, p, rfl, hx, _, _, _, c0, c1, c2, c3, c4, c5, c6, c7, c8⟩ := Lift.at h ha
  obtain ⟨b2, off2, q, e2, hy, _, _, _, d0, d1, d2, d3, d4, d5, d6, d7, d8⟩ := Lift.at h hb
  cases e2
  have HX := Lib.hid (dlOf_of (lv_at hv hx))
  have HY := Lib.hid (dlOf_of (lv_at hv hy))
  have h1 : (a : Int) < (n : Int) := by omega
  have h2 : (b : Int) < (n : Int) := by omega
  have h3 : (0 : Int) ≤ (a : Int) := by omega
  have h4 : (0 : Int) ≤ (b : Int) := by omega
  clear hx hy hv h c0 c1 c2 c3 c4 c5 c6 c8 d0 d1 d2 d3 d4 d5 d6 d8
  go_enter Try.func148, Try.ntmps148
  go_wp2
  go_quiet (fail)
  go_wp2
  go_ret
  exact ⟨by rw [HX.out, HY.out]; rfl, bel_drewN (Below.refl _ _) _⟩

set_option maxRecDepth 100000 in
set_option maxHeartbeats 1600000 in
theorem orderBy_any (A : Option Addr) (n c : Nat) (ps : List Lift) (vs : List LV) (hv : ps.map Lift.val = vs) (g : Nat) (w : World) (lo : Nat) (h : Lifts w lo w.heap.size A n ps) (hok : liftsOk vs = true) (hp : ∀ p ∈ ps, p.r.n ≤ 9223372036854775807) (hg : w.cell? ⟨g, 0, none⟩ = some (.slice A n c)) (hgl : g < w.heap.size) :
    Calls Try.prog 147 #[.slice A n c, .func (.func 148) #[] #[.pointer (some ⟨g, 0, none⟩)]] w (RetL ic 1 2 (urg vs n n).1 w) := by
  have HV := Lib.hid hv
  have HP := Lib.hid hp
  have HL : Hid (vs.length = n) := by show _ = _; rw [lv_len hv, h.len]
  have HOK := Lib.hid hok
  have hn10 : n ≤ 10 := by have := liftsOk_len hok; rw [HL.out] at this; exact this
  have HINV : Hid (∀ t, t ≤ n → 0 ≤ (urg vs n t).2 ∧ (urg vs n t).2 < 1024) := by
    show ∀ t, _
    intro t ht
    have := urg_inv (back_of hok) (liftsOk_len hok) t (by rw [HL.out]; exact ht)
    rw [HL.out] at this; exact ⟨this.1, this.2.1⟩
  have HNE : Hid (∀ t, t < n → 0 < (rdTo vs (urg vs n t).2 n).length) := by
    show ∀ t, _
    intro t ht
    have := urg_ready (back_of hok) (liftsOk_len hok) (t := t) (by rw [HL.out]; exact ht)
    rw [HL.out] at this; exact this
  clear hv hp hok
  go_enter Try.func147, Try.ntmps147
  go_wp2
  go_loopg [5, 6] n (fun g2 v d wr => ∃ (t : Nat) (A7 : Option Addr) (cap7 : Nat), t + g2 = n ∧ v = .slice A7 t cap7 ∧ d = .int .i64 (urg vs n t).2 ∧ Grow ic 1 wr w.heap.size 2 (.slice A7 t cap7) (urg vs n t).1 ∧ Below w.heap.size w wr)
  case atStart => exact ⟨0, none, 0, by omega, rfl, rfl, Grow.nil _ _ _, Below.refl _ _⟩
  case round =>
    obtain ⟨t, A7, cap7, htg, rfl, rfl, hgr, hb⟩ := hrel
    have hib := HINV.out t (by omega)
    cases gk with
    | zero =>
      obtain rfl : t = n := by omega
      go_wp2
      go_ret
      exact hgr.retl ic_len hb
    | succ g2 =>
      have htn : (t : Int) < (n : Int) := by omega
      have hne := HNE.out t (by omega)
      have hsz := hb.size
      have HLU := Lib.hid (urg_len vs n t)
      have HU1 : Hid ((urg vs n (t + 1)).1 = (urg vs n t).1 ++ [bestTo vs (rdTo vs (urg vs n t).2 n) ((rdTo vs (urg vs n t).2 n).length - 1)]) := rfl
      have HU2 : Hid ((urg vs n (t + 1)).2 = withI (urg vs n t).2 (bestTo vs (rdTo vs (urg vs n t).2 n) ((rdTo vs (urg vs n t).2 n).length - 1))) := rfl
      obtain ⟨m, hm⟩ : ∃ m, (urg vs n t).2 = m := ⟨_, rfl⟩
      obtain ⟨os, hos⟩ : ∃ os, (urg vs n t).1 = os := ⟨_, rfl⟩
      rw [hm] at hib hne HU1 HU2 ⊢
      rw [hos] at hgr HLU HU1
      clear hm hos
      have HLF := Lib.hid h
      have hrl := rdTo_len vs m n
      have HM : Hid (∀ x ∈ rdTo vs m n, ∃ j : Nat, x = (j : Int) ∧ j < n) := fun x hx => by obtain ⟨j, h1, h2, _⟩ := rdTo_mem hx; exact ⟨j, h1, h2⟩
      have hos7 : os.length ≤ 10 := by have := HLU.out; omega
      go_wp2_with fail
      refine (ready_anyC _ _ _ ps vs HV.out m _ lo ((h.below hb).more hsz) (by omega) (fits_of HOK.out) hib.1 (by omega) HP.out).mono ?_
      rintro _ w4 ⟨A4, cp, rfl, ho, hb4, hcap, hcp⟩
      have hb5 := hb.trans (hb4.mono hsz)
      have hgr4 := hgr.bel hb4
      have hsz5 := hb5.size
      have harr := ho.arr ic_len
      generalize rdTo vs m n = rs at *
      obtain ⟨L, hL⟩ : ∃ L, rs.length = L + 1 := ⟨rs.length - 1, by omega⟩
      rw [hL] at HU1 HU2 harr hcap ⊢
      rw [show L + 1 - 1 = L from rfl] at HU1 HU2
      obtain ⟨b4, off4, x0, rfl, hx0, hb4l, hb4h, e0⟩ := Ints.at harr (i := 0) (by omega)
      have HX0 : Hid (bestTo vs rs 0 = x0) := by show _ = _; unfold bestTo; rw [hx0]; rfl
      have htail := harr.tail
      have HRS := Lib.hid hL
      have hcl : ¬ ((cp : Int) < 1) := by omega
      clear ho hb4 hgr hx0 hL harr hb
      simp only [Nat.add_zero] at e0
      go_wp2_with fail
      all_goals
        go_loopg [8, 25] L (fun g3 bv jv wy => ∃ j : Nat, j + g3 = L ∧ jv = .int .i64 j ∧ bv = .int .i64 (bestTo vs rs j) ∧ Below w4.heap.size w4 wy)
        case atStart => exact ⟨0, by omega, rfl, by rw [HX0.out], Below.refl _ _⟩
        case round =>
          obtain ⟨j, hjg, rfl, rfl, hb6⟩ := hrel
          have HBM := Lib.hid (bestTo_mem (vs := vs) hne j)
          obtain ⟨b, hbb, hbn⟩ := HM.out _ HBM.out
          have HBB := Lib.hid hbb
          rw [hbb]
          have hb7 := hb5.trans (hb6.mono hsz5)
          have hs7 := hb7.size
          have hs6 := hb6.size
          clear hbb HBM
          cases gk with
          | zero =>
            obtain rfl : j = L := by omega
            have hpb := pow_bd (n := b) (by omega)
            have HOR : Hid (bits .or .i64 m (2 ^ b) = withI m b) := by have h9 := or_shl m b (by omega) (by omega) (by omega) (by omega); rwa [Int.toNat_natCast] at h9
            have hgr6 := hgr4.bel hb6
            go_wp2_with (at_builtin; refine wpList_snoc _ rfl _ _ 63 rfl w.heap.size 2 (.int .i64 0) 8 Try.underlying63 infoInt rfl (by omega) _ _ ((b : Nat) : Int) rfl (hgr6.alloc _) _ _ rfl (heap_alloc_new _ _) rfl rfl (ic_one _) (by omega) (by omega) (by simp; omega) ?_; intro v' w5 hg5 hgr5; have hb8 := (hgr6.alloc _).below (hb7.alloc hs7 _) hgr5 (Nat.le_refl _) (by simp; omega); obtain ⟨A8, cap8, rfl, _⟩ := hg5.own ic_len; rw [show (os ++ [(b : Int)]).length = t + 1 by rw [List.length_append, HLU.out]; rfl] at hg5 ⊢)
            go_roundg g2
            case measure => omega
            case rel => exact ⟨t + 1, A8, cap8, by omega, rfl, by rw [HU2.out, HBB.out]; exact congrArg (Value.int .i64) HOR.out, by rw [HU1.out, HBB.out]; exact hg5, hb8⟩
          | succ g3 =>
            first
            | (exfalso; omega)
            | (obtain ⟨b5, off5, x, e5, hx5, _, _, q0⟩ := Ints.at (htail.below hb6) (i := j) (by omega)
               cases e5
               rw [List.getElem?_tail] at hx5
               obtain ⟨i, hii, hin⟩ := HM.out x (List.mem_of_getElem? hx5)
               subst hii
               have HBS := Lib.hid (bestTo_succ (vs := vs) hx5)
               have hj1 : (j : Int) < (L : Int) := by omega
               clear hx5
               by_cases hlt : dlOf vs (i : Int) < dlOf vs (b : Int)
               · have HLT := Lib.hid hlt
                 go_wp2_with (go_at_call 148; refine (less_any _ _ _ ps vs HV.out i b g _ lo _ (HLF.out.below hb7) hin hbn (by omega) ((hb7.cell (p := ⟨g, 0, none⟩) hgl).trans hg)).mono ?_; rintro _ w8 ⟨rfl, hb8⟩)
                 go_roundg g3
                 case measure => omega
                 case rel => exact ⟨j + 1, by omega, by first | rfl | simp, by rw [HBS.out, HBB.out, if_pos HLT.out], hb6.trans (hb8.mono hs6)⟩
               · have HLT := Lib.hid hlt
                 go_wp2_with (go_at_call 148; refine (less_any _ _ _ ps vs HV.out i b g _ lo _ (HLF.out.below hb7) hin hbn (by omega) ((hb7.cell (p := ⟨g, 0, none⟩) hgl).trans hg)).mono ?_; rintro _ w8 ⟨rfl, hb8⟩)
                 go_roundg g3
                 case measure => omega
                 case rel => exact ⟨j + 1, by omega, by first | rfl | simp, by rw [HBS.out, HBB.out, if_neg (by have h9 := HLT.out; omega)], hb6.trans (hb8.mono hs6)⟩)

theorem bestTo_pred {vs : List LV} {rs : List Int} {k : Nat} {x : Int} (hk : 1 ≤ k) (h : rs[k]? = some x) : bestTo vs rs k = if dlOf vs x < dlOf vs (bestTo vs rs (k - 1)) then x else bestTo vs rs (k - 1) := by
  obtain ⟨j, rfl⟩ : ∃ j, k = j + 1 := ⟨k - 1, by omega⟩
  exact bestTo_succ h
set_option maxHeartbeats 800000 in
theorem urgentOrder_any (A : Option Addr) (n c : Nat) (ps : List Lift) (vs : List LV) (hv : ps.map Lift.val = vs) (w : World) (lo : Nat) (h : Lifts w lo w.heap.size A n ps) (hok : liftsOk vs = true) (hp : ∀ p ∈ ps, p.r.n ≤ 9223372036854775807) :
    Calls Try.prog 105 #[.slice A n c] w (RetL ic 1 2 (urg vs n n).1 w) := by
  have hmf : ∀ (fn : Fn) (first cap : Array Value) (W : World), (Instr.makeFunc fn first cap).run Try.prog W = .ok (.func fn first cap) W := fun _ _ _ _ => rfl
  obtain ⟨W, hW⟩ : ∃ W : World, W = w.alloc (.cells #[.slice A n c] 56) := ⟨_, rfl⟩
  have hbW : Below w.heap.size w W := by rw [hW]; exact (Below.refl _ _).alloc (Nat.le_refl _) _
  have hgW : W.cell? ⟨w.heap.size, 0, none⟩ = some (.slice A n c) := by rw [hW]; simp
  have hsW : w.heap.size < W.heap.size := by rw [hW]; simp
  have h4 := (h.below hbW).more hbW.size
  go_enter Try.func105, Try.ntmps105
  go_wp2_with fail
  rw [← hW]
  clear hW
  refine (orderBy_any _ _ _ ps vs hv w.heap.size _ lo h4 hok hp hgW hsW).mono ?_
  rintro _ w2 ⟨A2, cp, rfl, ho, hb2⟩
  go_wp2
  go_ret
  exact ⟨A2, cp, rfl, ho.wide (by omega) (Nat.le_refl _), bel2 hbW hb2⟩
set_option maxHeartbeats 800000 in
theorem urgentOrderAll_any (A : Option Addr) (n c : Nat) (ps : List Lift) (vs : List LV) (hv : ps.map Lift.val = vs) (w : World) (lo : Nat) (h : Lifts w lo w.heap.size A n ps) (hn : n ≤ 1048576) (hp : ∀ p ∈ ps, p.wf) :
    Calls Try.prog 53 #[.slice A n c] w (RetS ic 1 2 (urXs vs) (urCode vs) w) := by
  have HL : Hid (vs.length = n) := by show _ = _; rw [lv_len hv, h.len]
  cases h1 : liftsOk vs
  · have H : Hid (urXs vs = [] ∧ urCode vs = 1) := by show _ ∧ _; unfold urXs urCode; rw [h1]; exact ⟨rfl, rfl⟩
    go_enter Try.func53, Try.ntmps53
    go_wp2_with fail
    refine (validLifts_any _ _ _ ps vs hv _ _ h hn hp).mono ?_
    rintro e w1 ⟨rfl, hb⟩
    go_wp2
    go_ret2
    rw [H.out.1, H.out.2]; exact RetS.nil hb
  · have H : Hid (urXs vs = (urg vs n n).1 ∧ urCode vs = 0) := by show _ ∧ _; unfold urXs urCode; rw [h1, HL.out]; exact ⟨rfl, rfl⟩
    have H1 := Lib.hid h1
    have HU : Hid ((urg vs n n).1.length = n) := urg_len vs n n
    go_enter Try.func53, Try.ntmps53
    go_wp2_with fail
    refine (validLifts_any _ _ _ ps vs hv _ _ h hn hp).mono ?_
    rintro e w1 ⟨rfl, hb⟩
    go_wp2_with fail
    refine (urgentOrder_any _ _ _ ps vs hv _ lo ((h.below hb).more hb.size) H1.out (fun p hpp => (hp p hpp).n)).mono ?_
    rintro _ w2 ⟨A2, cp, rfl, ho, hb2⟩
    go_wp2
    go_ret2
    rw [H.out.1, H.out.2]; exact RetL.rets ho hb hb2

set_option maxRecDepth 100000 in
set_option maxHeartbeats 1600000 in
theorem specUrgentOrder_any (A : Option Addr) (n c : Nat) (ps : List Lift) (vs : List LV) (hv : ps.map Lift.val = vs) (w : World) (lo : Nat) (h : Lifts w lo w.heap.size A n ps) (hn : n ≤ 1048576) (hc : n ≤ c) (hc2 : c ≤ 1048576) (hp : ∀ p ∈ ps, p.wf) :
    Calls Try.prog 52 #[.slice A n c] w (RetS ic 1 2 (urXs vs) (urCode vs) w) := by
  have HL : Hid (vs.length = n) := by show _ = _; rw [lv_len hv, h.len]
  cases h1 : liftsOk vs
  · have H : Hid (urXs vs = [] ∧ urCode vs = 1) := by show _ ∧ _; unfold urXs urCode; rw [h1]; exact ⟨rfl, rfl⟩
    go_enter Try.func52, Try.ntmps52
    go_wp2_with fail
    refine (l08Ok_any _ _ _ ps vs hv _ _ h hn hc hc2 hp).mono ?_
    rintro e w1 ⟨rfl, hb⟩
    go_wp2
    go_ret2
    rw [H.out.1, H.out.2]; exact RetS.nil hb
  · have H : Hid (urXs vs = (urg vs n n).1 ∧ urCode vs = 0) := by show _ ∧ _; unfold urXs urCode; rw [h1, HL.out]; exact ⟨rfl, rfl⟩
    have HV := Lib.hid hv
    have HP : Hid (∀ p ∈ ps, p.r.n ≤ 9223372036854775807) := fun p hpp => (hp p hpp).n
    have HOK := Lib.hid h1
    have hn10 : n ≤ 10 := by have := liftsOk_len h1; rw [HL.out] at this; exact this
    have HINV : Hid (∀ t, t ≤ n → 0 ≤ (urg vs n t).2 ∧ (urg vs n t).2 < 1024) := by
      show ∀ t, _
      intro t ht
      have := urg_inv (back_of h1) (liftsOk_len h1) t (by rw [HL.out]; exact ht)
      rw [HL.out] at this; exact ⟨this.1, this.2.1⟩
    have HNE : Hid (∀ t, t < n → 0 < (rdTo vs (urg vs n t).2 n).length) := by
      show ∀ t, _
      intro t ht
      have := urg_ready (back_of h1) (liftsOk_len h1) (t := t) (by rw [HL.out]; exact ht)
      rw [HL.out] at this; exact this
    have HPW := Lib.hid hp
    clear hv hp
    go_enter Try.func52, Try.ntmps52
    go_wp2_with fail
    refine (l08Ok_any _ _ _ ps vs HV.out _ _ h hn hc hc2 HPW.out).mono ?_
    rintro e w1 ⟨rfl, hb⟩
    go_wp2
    clear h1
    go_loopg [4, 5] n (fun g2 v d wr => ∃ (t : Nat) (A7 : Option Addr) (cap7 : Nat), t + g2 = n ∧ v = .slice A7 t cap7 ∧ d = .int .i64 (urg vs n t).2 ∧ Grow ic 1 wr w.heap.size 2 (.slice A7 t cap7) (urg vs n t).1 ∧ Below w.heap.size w wr)
    case atStart => exact ⟨0, _, 0, by omega, rfl, rfl, Grow.empty _ _ _ hb.size, hb.alloc hb.size _⟩
    case round =>
      obtain ⟨t, A7, cap7, htg, rfl, rfl, hgr, hb⟩ := hrel
      have hib := HINV.out t (by omega)
      cases gk with
      | zero =>
        obtain rfl : t = n := by omega
        go_wp2
        go_ret2
        rw [H.out.1, H.out.2]
        exact hgr.rets ic_len hb
      | succ g2 =>
        have htn : (t : Int) < (n : Int) := by omega
        have hne := HNE.out t (by omega)
        have hsz := hb.size
        have HLU := Lib.hid (urg_len vs n t)
        have HU1 : Hid ((urg vs n (t + 1)).1 = (urg vs n t).1 ++ [bestTo vs (rdTo vs (urg vs n t).2 n) ((rdTo vs (urg vs n t).2 n).length - 1)]) := rfl
        have HU2 : Hid ((urg vs n (t + 1)).2 = withI (urg vs n t).2 (bestTo vs (rdTo vs (urg vs n t).2 n) ((rdTo vs (urg vs n t).2 n).length - 1))) := rfl
        obtain ⟨m, hm⟩ : ∃ m, (urg vs n t).2 = m := ⟨_, rfl⟩
        obtain ⟨os, hos⟩ : ∃ os, (urg vs n t).1 = os := ⟨_, rfl⟩
        rw [hm] at hib hne HU1 HU2 ⊢
        rw [hos] at hgr HLU HU1
        clear hm hos
        have HLF := Lib.hid h
        have hrl := rdTo_len vs m n
        have HM : Hid (∀ x ∈ rdTo vs m n, ∃ j : Nat, x = (j : Int) ∧ j < n) := fun x hx => by obtain ⟨j, h1, h2, _⟩ := rdTo_mem hx; exact ⟨j, h1, h2⟩
        have hos7 : os.length ≤ 10 := by have := HLU.out; omega
        go_wp2_with fail
        refine (l08Ready_anyC _ _ _ ps vs HV.out m _ lo ((h.below hb).more hsz) (by omega) (fits_of HOK.out) hib.1 (by omega) HP.out).mono ?_
        rintro _ w4 ⟨A4, cp, rfl, ho, hb4, hcap, hcp⟩
        have hb5 := hb.trans (hb4.mono hsz)
        have hgr4 := hgr.bel hb4
        have hsz5 := hb5.size
        have harr := ho.arr ic_len
        generalize rdTo vs m n = rs at *
        obtain ⟨L, hL⟩ : ∃ L, rs.length = L + 1 := ⟨rs.length - 1, by omega⟩
        rw [hL] at HU1 HU2 harr hcap ⊢
        rw [show L + 1 - 1 = L from rfl] at HU1 HU2
        obtain ⟨b4, off4, x0, rfl, hx0, hb4l, hb4h, e0⟩ := Ints.at harr (i := 0) (by omega)
        have HX0 : Hid (bestTo vs rs 0 = x0) := by show _ = _; unfold bestTo; rw [hx0]; rfl
        have HRS := Lib.hid hL
        have hL10 : L ≤ 10 := by omega
        clear ho hb4 hgr hx0 hL hb h
        simp only [Nat.add_zero] at e0
        go_wp2_with fail
        go_loopg [7, 8] L (fun g3 bv jv wy => ∃ k : Nat, k + g3 = L + 1 ∧ 1 ≤ k ∧ jv = .int .i64 k ∧ bv = .int .i64 (bestTo vs rs (k - 1)) ∧ ∃ q, wy = w4.drewN q)
        case atStart => exact ⟨1, by omega, by omega, rfl, by rw [show (1 : Nat) - 1 = 0 from rfl, HX0.out], 0, rfl⟩
        case round =>
          obtain ⟨k, hjg, hk1, rfl, rfl, Q, rfl⟩ := hrel
          have HBM := Lib.hid (bestTo_mem (vs := vs) hne (k - 1))
          obtain ⟨b, hbb, hbn⟩ := HM.out _ HBM.out
          have HBB := Lib.hid hbb
          rw [hbb]
          have hb7 := bel_drewN hb5 Q
          have hs7 := hb7.size
          clear hbb HBM
          cases gk with
          | zero =>
            obtain rfl : k = L + 1 := by omega
            rw [show L + 1 - 1 = L from rfl] at HBB
            have hpb := pow_bd (n := b) (by omega)
            have HOR : Hid (bits .or .i64 m (2 ^ b) = withI m b) := by have h9 := or_shl m b (by omega) (by omega) (by omega) (by omega); rwa [Int.toNat_natCast] at h9
            have hgr6 := hgr4.bel (bel_drewN (Below.refl w4.heap.size w4) Q)
            go_wp2_with (at_builtin; refine wpList_snoc _ rfl _ _ 63 rfl w.heap.size 2 (.int .i64 0) 8 Try.underlying63 infoInt rfl (by omega) _ _ ((b : Nat) : Int) rfl (hgr6.alloc _) _ _ rfl (heap_alloc_new _ _) rfl rfl (ic_one _) (by omega) (by omega) (by simp; omega) ?_; intro v' w5 hg5 hgr5; have hb8 := (hgr6.alloc _).below (hb7.alloc hs7 _) hgr5 (Nat.le_refl _) (by simp; omega); obtain ⟨A8, cap8, rfl, _⟩ := hg5.own ic_len; rw [show (os ++ [(b : Int)]).length = t + 1 by rw [List.length_append, HLU.out]; rfl] at hg5 ⊢)
            go_roundg g2
            case measure => omega
            case rel => exact ⟨t + 1, A8, cap8, by omega, rfl, by rw [HU2.out, HBB.out]; exact congrArg (Value.int .i64) HOR.out, by rw [HU1.out, HBB.out]; exact hg5, hb8⟩
          | succ g3 =>
            obtain ⟨b5, off5, x, e5, hx5, _, _, q0⟩ := Ints.at harr (i := k) (by omega)
            cases e5
            obtain ⟨i, hii, hin⟩ := HM.out x (List.mem_of_getElem? hx5)
            subst hii
            have HBS := Lib.hid (bestTo_pred (vs := vs) hk1 hx5)
            have hj1 : (k : Int) < (L : Int) + 1 := by omega
            have hj0 : (0 : Int) ≤ (k : Int) := by omega
            clear hx5
            obtain ⟨b1, off1, p1, e1, hx1, _, _, _, c0, c1, c2, c3, c4, c5, c6, c7, c8⟩ := Lift.at (HLF.out.below hb5) hin
            obtain ⟨b2, off2, p2, e2, hx2, _, _, _, d0, d1, d2, d3, d4, d5, d6, d7, d8⟩ := Lift.at (HLF.out.below hb5) hbn
            subst e1
            cases e2
            have HX := Lib.hid (dlOf_of (lv_at HV.out hx1))
            have HY := Lib.hid (dlOf_of (lv_at HV.out hx2))
            have h1 : (i : Int) < (n : Int) := by omega
            have h2 : (b : Int) < (n : Int) := by omega
            have h3 : (0 : Int) ≤ (i : Int) := by omega
            have h4 : (0 : Int) ≤ (b : Int) := by omega
            clear hx1 hx2 c0 c1 c2 c3 c4 c5 c6 c8 d0 d1 d2 d3 d4 d5 d6 d8
            by_cases hlt : p1.v.deadline < p2.v.deadline
            · have HLT : Hid (dlOf vs (i : Int) < dlOf vs (b : Int)) := by show _ < _; rw [HX.out, HY.out]; exact hlt
              go_wp2
              go_quiet (fail)
              go_wp2
              go_roundg g3
              case measure => omega
              case rel => exact ⟨k + 1, by omega, by omega, by first | rfl | simp, by rw [show k + 1 - 1 = k from rfl, HBS.out, HBB.out, if_pos HLT.out], by first | exact ⟨_, rfl⟩ | exact ⟨_, World.drewN_drewN _ _ _⟩⟩
            · have HLT : Hid (¬ dlOf vs (i : Int) < dlOf vs (b : Int)) := by show ¬ _; rw [HX.out, HY.out]; exact hlt
              go_wp2
              go_quiet (fail)
              go_wp2
              go_roundg g3
              case measure => omega
              case rel => exact ⟨k + 1, by omega, by omega, by first | rfl | simp, by rw [show k + 1 - 1 = k from rfl, HBS.out, HBB.out, if_neg (by have h9 := HLT.out; omega)], by first | exact ⟨_, rfl⟩ | exact ⟨_, World.drewN_drewN _ _ _⟩⟩
end Go.Proofs.Ytglnbopmdncibaa
