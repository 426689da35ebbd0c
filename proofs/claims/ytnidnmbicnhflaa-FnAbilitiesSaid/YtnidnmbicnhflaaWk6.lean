/- Made by merge.py of XWk3, XWk6. -/
import Derived.Test.YtnidnmbicnhflaaWk2
import Derived.Test.YtnidnmbicnhflaaWk5
import Derived.Lib.QuietBelow
import Derived.BigQuiet
/- XWk3: A2Works of the reference: a valid site with valid lifts; a2Has of the laws. -/
namespace Go.Proofs.Ytnidnmbicnhflaa
open Go.RowKit
set_option linter.unusedVariables false

/-- what A2Works hands back -/
structure WorksG (w : World) (lo : Nat) (A : Option Addr) (c : Nat) (ys : List Crane) (A2 : Option Addr) (c2 : Nat) (ls : List Lift) : Prop where
  site : SiteG w lo A c ys
  lifts : Lifts w lo w.heap.size A2 ls.length ls
  cap : ls.length ≤ c2 ∧ c2 ≤ 9223372036854775807
  good : Good (ls.map Lift.val)
  len : ls.length ≤ 6
  wf : ∀ p ∈ ls, p.wf
theorem WorksG.bel {w w' : World} {lo : Nat} {A : Option Addr} {c : Nat} {ys : List Crane} {A2 : Option Addr} {c2 : Nat} {ls : List Lift} (h : WorksG w lo A c ys A2 c2 ls) (hb : RowKit.Below w.heap.size w w') : WorksG w' lo A c ys A2 c2 ls :=
  ⟨h.site.bel hb, (h.lifts.below hb).more hb.size, h.cap, h.good, h.len, h.wf⟩
def WorksA2 (w : World) (e : Ending) (w' : World) : Prop :=
  ∃ A c ys A2 c2 ls, e = .returned (.tuple #[.agg #[.slice A ys.length c], .slice A2 ls.length c2]) ∧ WorksG w' w.heap.size A c ys A2 c2 ls ∧ RowKit.Below w.heap.size w w'
set_option maxRecDepth 100000 in
set_option maxHeartbeats 1600000 in
theorem a2Works_any (A : Option Addr) (n c : Nat) (xs : List Int) (w : World) (h : Arr bc 1 w 0 w.heap.size A n xs) (hx : ∀ x ∈ xs, 0 ≤ x ∧ x ≤ 255) (hn : n ≤ 1000000) :
    Calls Try.prog 6 #[.slice A n c] w (WorksA2 w) := by
  obtain ⟨W, hW⟩ : ∃ W : World, W = w.alloc (.cells #[.slice none 0 0] 26) := ⟨_, rfl⟩
  have hbW : RowKit.Below w.heap.size w W := by rw [hW]; exact (Below.refl _ _).alloc (Nat.le_refl _) _
  have hR : Blk W w.heap.size 26 #[.slice none 0 0] := by rw [hW]; exact Blk.new _ _ _
  have hz0 := hR.lt
  go_enter Try.func6, Try.ntmps6
  go_wp2_with fail
  rw [← hW]
  clear hW
  refine (l00From_any A n c W).mono ?_
  rintro e w1 ⟨rfl, hw1⟩
  have hb1 : RowKit.Below W.heap.size W w1 := by rw [hw1]; exact (Below.refl _ _).alloc (Nat.le_refl _) _
  have hS : Src w1 W.heap.size W.heap.size A n xs 0 := ⟨c, 0, 0, Nat.le_refl _, by omega, by omega, by rw [hw1]; exact Blk.new _ _ _, ((h.below hbW).more hbW.size).below hb1, hx, by omega⟩
  have hz := hS.lt
  clear hw1
  obtain ⟨g, hg⟩ : ∃ g, W.heap.size = g := ⟨_, rfl⟩
  rw [hg] at hS hz hb1 ⊢
  go_wp2_with fail
  refine (l04DrawSite_any g g A n xs 0 (by omega) hn w1 hS).mono ?_
  rintro e w2 ⟨v, ys, rfl, hd, hok, hs2, hw2⟩
  obtain ⟨A2, c2, rfl, hsg⟩ := hd.good_ hok
  have hlen := hsg.len
  obtain ⟨gb, go, _, eA, -⟩ := Crane.at hsg.cranes (i := 0) (by omega)
  subst eA
  have hz2 := hw2.size
  obtain ⟨W3, hW3⟩ : ∃ V : World, V = w2.alloc (.cells #[.slice (some ⟨gb, go, none⟩) ys.length c2] 26) := ⟨_, rfl⟩
  have hb3 : RowKit.Below w2.heap.size w2 W3 := by rw [hW3]; exact (Below.refl _ _).alloc (Nat.le_refl _) _
  have hX3 : Blk W3 w2.heap.size 26 #[.slice (some ⟨gb, go, none⟩) ys.length c2] := by rw [hW3]; exact Blk.new _ _ _
  have hz3 := hX3.lt
  have hw13 : Within g (g + 1) w1 W3 := hw2.trans (.of_below g (g + 1) hb3)
  have hR3 : Blk W3 w.heap.size 26 #[.slice none 0 0] := (hR.below hb1 (by omega)).after hw13 (by omega)
  have hd3 : SiteD W3 w1.heap.size (.slice (some ⟨gb, go, none⟩) ys.length c2) ys := hd.after (.of_below g (g + 1) hb3) hz
  have hwd : ∀ w', Within g (g + 1) W3.drew w' → Within g (g + 1) W3 w' := fun w' hw => Within.trans (.of_below _ _ ((Below.refl W3.heap.size W3).drew)) hw
  have hSI : SiteIn W3.drew g w2.heap.size w1.heap.size (some ⟨gb, go, none⟩) ys.length c2 ys := fun w' hw => by
    have hd' := hd3.after (hwd w' hw) hz
    exact ⟨((hX3.after (hwd w' hw) (by omega)).cell 0).trans rfl, hd'.cranes rfl⟩
  have HCALL : Hid (Calls Try.prog 25 #[.pointer (some ⟨g, 0, none⟩), .pointer (some ⟨w2.heap.size, 0, none⟩), .int .i64 6] W3.drew fun e w' => DrawnAll W3.drew W3.drew.heap.size e w' ∧ Within g (g + 1) W3.drew w') :=
    l09Lifts_any g g A n xs (0 + 200) (by omega) hn w2.heap.size w1.heap.size gb go ys.length c2 ys W3.drew ((hs2.bel hb3).bel ((Below.refl _ _).drew)) (by show w2.heap.size < W3.heap.size; exact hz3) hSI hlen hd.good
  have HD3 := Lib.hid hd3
  have HR3 := Lib.hid hR3
  have HX3 := Lib.hid hX3
  have HWD := Lib.hid hwd
  have HOK := Lib.hid hok
  have HB1 := Lib.hid (hbW.trans (hb1.mono (by omega)))
  have HW13 := Lib.hid hw13
  have x0 : W3.cell? ⟨w2.heap.size, 0, none⟩ = some (.slice (some ⟨gb, go, none⟩) ys.length c2) := (hX3.cell 0).trans rfl
  have hr0 : w.heap.size < w2.heap.size := by have := hbW.size; omega
  have hrg : w.heap.size < g := by omega
  clear hd hsg hs2 hw2 hb3 hX3 hR3 hd3 hwd hSI hw13 hok hS hb1 hR hbW h hx
  go_wp2_with fail
  rw [← hW3]
  clear hW3
  go_region_law ((try go_simp); go_at_call 25; refine HCALL.out.mono ?_; rintro e w5 ⟨⟨v5, ls, rfl, hgr5, hgood5, hl5, hown5⟩, hw5⟩; obtain ⟨A5, c5, rfl, hc51, hc52⟩ := hgr5.slice; have hwx := HWD.out w5 hw5; have hwz := hwx.size; have hR5 := HR3.out.after hwx (by omega); have r0 : w5.cell? ⟨w.heap.size, 0, none⟩ = some (.slice none 0 0) := (hR5.cell 0).trans rfl; have fr := hR5.frozen 0; have hrl := hR5.lt; have x5 : w5.cell? ⟨w2.heap.size, 0, none⟩ = some (.slice (some ⟨gb, go, none⟩) ys.length c2) := ((HX3.out.after hwx (by omega)).cell 0).trans rfl; have HWX := Lib.hid hwx; have HR5 := Lib.hid hR5; have HGR5 := Lib.hid hgr5; have HGD5 := Lib.hid hgood5; have HOW5 := Lib.hid hown5)
  all_goals
    have hzd : W3.drew.heap.size = W3.heap.size := rfl
    have hd6 : SiteD (w5.setCell ⟨w.heap.size, 0, none⟩ (.slice (some ⟨gb, go, none⟩) ys.length c2)) w1.heap.size (.slice (some ⟨gb, go, none⟩) ys.length c2) ys := ⟨(HD3.out.after HWX.out hz).grow.setBlk HR5.out (by decide) _, fun y hy => ((HD3.out.after HWX.out hz).rows y hy).setBlk HR5.out _, HD3.out.good, HD3.out.ok⟩
    have hg6 := HGR5.out.setBlk (i := 0) HR5.out (by decide) (.slice (some ⟨gb, go, none⟩) ys.length c2)
    have HF : Hid (WorksA2 w (.returned (.tuple #[.agg #[.slice (some ⟨gb, go, none⟩) ys.length c2], .slice A5 ls.length c5])) (w5.setCell ⟨w.heap.size, 0, none⟩ (.slice (some ⟨gb, go, none⟩) ys.length c2))) := by
      obtain ⟨A3, c3, e3, hg3⟩ := hd6.good_ HOK.out
      injection e3 with e1 e2 e4
      subst e1
      subst e4
      obtain ⟨A9, c9, e9, ho9⟩ := hg6.own Lift.cs_len
      injection e9 with e1 e2 e4
      subst e1
      refine ⟨_, _, ys, _, c5, ls, rfl, ⟨hg3.low (by have := HB1.out.size; omega), ⟨(ho9.wide (by omega) (Nat.le_refl _)).arr Lift.cs_len, fun p hp => ?_⟩, ⟨hc51, hc52⟩, HGD5.out, hl5, fun p hp => (HOW5.out p hp).wf⟩, ?_⟩
      · exact (((HOW5.out p hp).row.setBlk (i := 0) HR5.out (by decide) _).wide (by omega) (by simp)).arr ic_len
      · exact (Below.within HB1.out (HW13.out.trans HWX.out) (by omega) (by omega)).setCell (p := ⟨w.heap.size, 0, none⟩) (Nat.le_refl _) _
    clear hd6 hg6
    go_wp2
    exact bodyPost_ret (v := .tuple #[.agg #[.slice (some ⟨gb, go, none⟩) ys.length c2], .slice A5 ls.length c5]) (by simp [results, Try.results6, go_sem, r0]) rfl HF.out
/-- whether a number lies in a list -/
def hasJ (xs : List Int) (x : Int) : Bool := xs.any fun y => decide (y = x)
set_option maxHeartbeats 800000 in
theorem a2Has_any (A : Option Addr) (n c : Nat) (xs : List Int) (x : Int) (w : World) (lo : Nat) (h : Arr ic 1 w lo w.heap.size A n xs) (hn : n ≤ 9223372036854775807) :
    Calls Try.prog 11 #[.slice A n c, .int .i64 x] w fun e w' => e = .returned (.bool (hasJ xs x)) ∧ w = w' := by
  have HA := Lib.hid h
  have hl := h.1
  clear h
  go_enter Try.func11, Try.ntmps11
  go_wp2
  go_loopw [5] (fun iv wr => ∃ k : Nat, k ≤ n ∧ iv = .int .i64 k ∧ hasJ (xs.take k) x = false ∧ w = wr) (fun iv _ => n - (intOf iv).toNat)
  case atStart => exact ⟨0, Nat.zero_le _, rfl, rfl, rfl⟩
  case round =>
    obtain ⟨k, hk, rfl, hno, rfl⟩ := hrel
    have HNO := Lib.hid hno
    clear hno
    by_cases hlt : k < n
    · obtain ⟨b, off, y, eA, hx, _, hbl, hc⟩ := HA.out.cells hlt
      have c0 : w.cell? ⟨b, off + k, none⟩ = some (.int .i64 y) := by have := hc 0 _ rfl; simpa using this
      have hkn : (k : Int) < (n : Int) := by omega
      have hk0 : (0 : Int) ≤ (k : Int) := by omega
      have HT : Hid (xs.take (k + 1) = xs.take k ++ [y]) := by show _ = _; rw [List.take_add_one, hx]; rfl
      have HX := Lib.hid hx
      clear hc hx
      by_cases hyx : y = x
      · subst hyx
        have HR : Hid (hasJ xs y = true) := by
          show _ = _
          unfold hasJ
          rw [List.any_eq_true]
          exact ⟨y, List.mem_of_getElem? HX.out, by simp⟩
        go_wp2
        go_ret
        exact ⟨by rw [HR.out]; rfl, rfl⟩
      · have HR : Hid (hasJ (xs.take (k + 1)) x = false) := by
          show _ = _
          rw [HT.out]
          unfold hasJ
          rw [List.any_append]
          have := HNO.out
          unfold hasJ at this
          rw [this]
          simp [hyx]
        go_wp2
        go_roundw
        case rel => exact ⟨k + 1, by omega, by go_num, HR.out, by first | rfl | trivial⟩
        case measure => simp [intOf]; omega
    · obtain rfl : k = n := by omega
      have HR : Hid (hasJ xs x = false) := by show _ = _; have := HNO.out; rwa [List.take_of_length_le (by omega)] at this
      go_wp2
      go_ret
      exact ⟨by rw [HR.out]; rfl, rfl⟩
end Go.Proofs.Ytnidnmbicnhflaa
/- XWk6: FnAbilities: the plain law: what abilities, margins and the best crane have to do with each other; what the law holds in memory. -/
namespace Go.Proofs.Ytnidnmbicnhflaa
open Go.RowKit Go.Sort
set_option linter.unusedVariables false

theorem cdiv_above {n d m : Int} (hd : 1 ≤ d) (h : m * d < n) : m < cdiv n d := by
  unfold cdiv
  have h2 : (m + 1) * d ≤ n + d - 1 := by rw [Int.add_mul]; omega
  have := Int.le_ediv_of_mul_le (by omega : 0 < d) h2
  omega
/-- one crane and one lift: the five cases of the law -/
theorem one_cases {c : CV} {v : LiftV} (hok : craneOk c = true) (hpl : plainB v = true) :
    (mgVal c v = 0 ∧ mgCode c v = 3 ∧ upVal c v = 0 ∧ upCode c v = 3 ∧ ableB c v = false) ∨
    (mgCode c v = 0 ∧ (-50000 ≤ mgVal c v ∧ mgVal c v < 0) ∧ upVal c v = 0 ∧ upCode c v = 6 ∧ ableB c v = false) ∨
    (mgCode c v = 0 ∧ (0 ≤ mgVal c v ∧ mgVal c v ≤ 50000) ∧ upCode c v = 0 ∧ (0 ≤ upVal c v ∧ upVal c v ≤ 100) ∧ ableB c v = decide (v.height + 30 ≤ c.1.height)) ∨
    (mgCode c v = 0 ∧ (-50000 ≤ mgVal c v ∧ mgVal c v < 0) ∧ upCode c v = 0 ∧ (100 < upVal c v ∧ upVal c v ≤ 5000000) ∧ ableB c v = false) := by
  have hr := ldF_range hok v
  have hw := (plainB_parts hpl).weight
  have hk : okB c v = true := by unfold okB; rw [hok, hpl]; rfl
  by_cases h1 : ldF c v < 0
  · obtain ⟨a1, a2⟩ := mg_3 hk h1
    obtain ⟨b1, b2⟩ := up_3 hk h1
    exact .inl ⟨a1, a2, b1, b2, (plainB_parts hpl).ne h1⟩
  · obtain ⟨a1, a2⟩ := mg_0 hk h1
    by_cases h2 : ldF c v = 0
    · obtain ⟨b1, b2⟩ := up_6 hk h2
      refine .inr (.inl ⟨a2, by rw [a1]; omega, b1, b2, ?_⟩)
      unfold ableB
      rw [decide_eq_false (by omega), Bool.false_and]
    · obtain ⟨b1, b2⟩ := up_0 hk h1 h2
      have hF : 1 ≤ ldF c v := by omega
      by_cases h3 : v.weight ≤ ldF c v
      · refine .inr (.inr (.inl ⟨a2, by rw [a1]; omega, b2, ⟨by rw [b1]; exact cdiv_low (by omega) hF, by rw [b1]; exact cdiv_high hF (by omega)⟩, ?_⟩))
        unfold ableB
        rw [decide_eq_true h3, Bool.true_and]
      · refine .inr (.inr (.inr ⟨a2, by rw [a1]; omega, b2, ⟨by rw [b1]; exact cdiv_above hF (by omega), by rw [b1]; exact cdiv_high hF (by have := Int.mul_le_mul_of_nonneg_left hF (show (0 : Int) ≤ 5000000 by omega); omega)⟩, ?_⟩))
        unfold ableB
        rw [decide_eq_false h3, Bool.false_and]
theorem bst_max {f : Int → Int} (xs : List Int) : ∀ x ∈ xs, f x ≤ (bst f xs).2 := by
  have h9 : ∀ (xs : List Int) (a : Int × Int), a.2 ≤ (xs.foldl (fun a i => if a.2 < f i then (i, f i) else a) a).2 ∧ ∀ x ∈ xs, f x ≤ (xs.foldl (fun a i => if a.2 < f i then (i, f i) else a) a).2 := by
    intro xs
    induction xs with
    | nil => intro a; exact ⟨Int.le_refl _, fun x hx => (by cases hx)⟩
    | cons y ys ih =>
      intro a
      rw [List.foldl_cons]
      obtain ⟨i1, i2⟩ := ih (if a.2 < f y then (y, f y) else a)
      by_cases hlt : a.2 < f y
      · rw [if_pos hlt] at i1 i2 ⊢
        refine ⟨by dsimp only at i1; omega, fun x hx => ?_⟩
        rcases List.mem_cons.1 hx with rfl | hx
        · exact i1
        · exact i2 x hx
      · rw [if_neg hlt] at i1 i2 ⊢
        refine ⟨i1, fun x hx => ?_⟩
        rcases List.mem_cons.1 hx with rfl | hx
        · omega
        · exact i2 x hx
  exact (h9 xs (-1, -1)).2
theorem able_of {cs : List CV} {v : LiftV} {n i : Nat} (hi : i < n) (h : ableAt cs v i = true) : (i : Int) ∈ ableTo cs v n :=
  List.mem_map.2 ⟨i, List.mem_filter.2 ⟨List.mem_range.2 hi, h⟩, rfl⟩
/-- the best crane, where there is one -/
theorem best_facts {cs : List CV} {v : LiftV} (hok : siteOk cs = true) (hpl : plainB v = true) (hne : ableTo cs v cs.length ≠ []) :
    ∃ (j : Nat) (cj : CV), j < cs.length ∧ cs[j]? = some cj ∧ bcVal cs v = (j : Int) ∧ bcCode cs v = 0 ∧ (j : Int) ∈ ableTo cs v cs.length ∧
      ∀ (i : Nat) (c : CV), i < cs.length → cs[i]? = some c → ableB c v = true → mgVal c v ≤ mgVal cj v := by
  have hP := plainB_parts hpl
  have hF : ∀ i ∈ ableTo cs v cs.length, 0 ≤ ldC cs v i := fun i hi => able_ld hP hi
  obtain ⟨h1, h2, h3⟩ := bst_mem hF rfl (ableTo cs v cs.length).length (List.length_pos_iff.2 hne) (Nat.le_refl _)
  rw [List.take_length] at h1 h2 h3
  obtain ⟨j, hj, ej, haj⟩ := able_mem h1
  have hcj : cs[j]? = some cs[j] := List.getElem?_eq_getElem hj
  have hmg : ∀ c : CV, craneOk c = true → 0 ≤ ldF c v → mgVal c v = ldF c v - v.weight := fun c hc h0 => (mg_0 (by unfold okB; rw [hc, hpl]; rfl) (by omega)).1
  refine ⟨j, cs[j], hj, hcj, ?_, ?_, by rw [ej] at h1; exact h1, fun i c hi hc ha => ?_⟩
  · unfold bcVal; rw [hok, hpl, if_pos rfl, if_pos rfl, if_neg hne, ej]
  · unfold bcCode; rw [hok, hpl, if_pos rfl, if_pos rfl, if_neg hne]
  · have hi2 := able_of hi (show ableAt cs v i = true by rw [ableAt_of hc]; exact ha)
    have h4 := bst_max (f := ldC cs v) (ableTo cs v cs.length) (i : Int) hi2
    have h5 := hF _ hi2
    rw [← h2, ej, ldC_of hcj, ldC_of hc] at h4
    rw [ldC_of hc] at h5
    have h6 : 0 ≤ ldF cs[j] v := by omega
    rw [hmg c (siteOk_at hok hc) h5, hmg cs[j] (siteOk_at hok hcj) h6]
    omega
theorem best_none {cs : List CV} {v : LiftV} (hok : siteOk cs = true) (hpl : plainB v = true) (hE : ableTo cs v cs.length = []) : bcVal cs v = 0 ∧ bcCode cs v = 3 := by
  unfold bcVal bcCode
  rw [hok, hpl, hE]
  exact ⟨rfl, rfl⟩
theorem able_all {cs : List CV} {v : LiftV} (hok : siteOk cs = true) (hpl : plainB v = true) : abXs cs v = ableTo cs v cs.length ∧ abCode cs v = 0 := by
  unfold abXs abCode
  rw [hok, hpl]
  exact ⟨rfl, rfl⟩
theorem hasJ_iff {xs : List Int} {x : Int} : hasJ xs x = true ↔ x ∈ xs := by
  unfold hasJ
  rw [List.any_eq_true]
  exact ⟨fun ⟨y, hy, e⟩ => by simp at e; subst e; exact hy, fun h => ⟨x, h, by simp⟩⟩
theorem hasJ_able {cs : List CV} {v : LiftV} {n i : Nat} {c : CV} (hi : i < n) (hc : cs[i]? = some c) : hasJ (ableTo cs v n) (i : Int) = ableB c v := by
  rw [← ableAt_of (v := v) hc]
  cases ha : ableAt cs v i
  · cases hh : hasJ (ableTo cs v n) (i : Int)
    · rfl
    · obtain ⟨j, _, e, h9⟩ := able_mem (hasJ_iff.1 hh)
      obtain rfl : i = j := by omega
      rw [ha] at h9; cases h9
  · exact hasJ_iff.2 (able_of hi ha)
theorem hasJ_im {cs : List CV} {ls : List Lift} {n m k : Nat} {p : Lift} (hk : k < m) (hp : ls[k]? = some p) : hasJ (imTo cs ls n m) (k : Int) = !posB cs p.v n := by
  have e : imAt cs ls n k = !posB cs p.v n := by simp only [imAt, hp]
  rw [← e]
  cases ha : imAt cs ls n k
  · cases hh : hasJ (imTo cs ls n m) (k : Int)
    · rfl
    · have := hasJ_iff.1 hh
      unfold imTo at this
      obtain ⟨j, hj, ej⟩ := List.mem_map.1 this
      obtain rfl : k = j := by omega
      rw [List.mem_filter] at hj
      rw [ha] at hj; cases hj.2
  · refine hasJ_iff.2 ?_
    unfold imTo
    exact List.mem_map.2 ⟨k, List.mem_filter.2 ⟨List.mem_range.2 hk, ha⟩, rfl⟩
/-- what the law holds in memory -/
structure AW (w0 w : World) (gs : Nat) (A : Option Addr) (c n : Nat) (ps : List Crane) (A2 : Option Addr) (m : Nat) (ls : List Lift) (A3 : Option Addr) (rows : List (Row Bool)) (A4 : Option Addr) (nn : Nat) (ns : List Int) : Prop where
  box : Blk w gs 26 #[.slice A n c]
  cranes : Cranes w w0.heap.size w.heap.size A n ps
  lifts : Lifts w w0.heap.size w.heap.size A2 m ls
  table : Arr Row.cs 1 w w0.heap.size w.heap.size A3 m rows
  rows : ∀ r ∈ rows, r.n = n ∧ Arr bl 1 w w0.heap.size w.heap.size r.a r.n r.xs
  nones : Arr ic 1 w w0.heap.size w.heap.size A4 nn ns
  below : RowKit.Below w0.heap.size w0 w
theorem AW.bel {w0 w w' : World} {gs : Nat} {A : Option Addr} {c n : Nat} {ps : List Crane} {A2 : Option Addr} {m : Nat} {ls : List Lift} {A3 : Option Addr} {rows : List (Row Bool)} {A4 : Option Addr} {nn : Nat} {ns : List Int} (h : AW w0 w gs A c n ps A2 m ls A3 rows A4 nn ns) (hb : RowKit.Below w.heap.size w w') : AW w0 w' gs A c n ps A2 m ls A3 rows A4 nn ns :=
  ⟨h.box.bel hb, (h.cranes.below hb).more hb.size, (h.lifts.below hb).more hb.size, (h.table.below hb).more hb.size, fun r hr => ⟨(h.rows r hr).1, ((h.rows r hr).2.below hb).more hb.size⟩, (h.nones.below hb).more hb.size, h.below.trans (hb.mono h.below.size)⟩
/-- a2Has, wherever the drawn walk stands -/
def HasR (w : World) (A : Option Addr) (n c : Nat) (x : Int) (r : Bool) : Prop :=
  ∀ d os, Calls Try.prog 11 #[.slice A n c, .int .i64 x] (grow (redrawn w d) os) fun e w' => e = .returned (.bool r) ∧ RowKit.Below (grow (redrawn w d) os).heap.size (grow (redrawn w d) os) w'
theorem hasR {w : World} {A : Option Addr} {n c : Nat} {xs : List Int} {x : Int} {lo : Nat} {r : Bool} (h : Arr ic 1 w lo w.heap.size A n xs) (hn : n ≤ 9223372036854775807) (hr : hasJ xs x = r) : HasR w A n c x r := fun d os => by
  have hb := below_regrown w d os
  subst hr
  exact (a2Has_any A n c xs x _ lo ((h.below hb).more hb.size) hn).mono fun e w' ⟨he, hw⟩ => ⟨he, by subst hw; exact Below.refl _ _⟩
theorem hasR_use {w : World} {A : Option Addr} {n c d : Nat} {x : Int} {r : Bool} {os : Array Obj} (h : HasR w A n c x r) : Calls Try.prog 11 #[.slice A n c, .int .i64 x] (grow (redrawn w d) os) fun e w' => e = .returned (.bool r) ∧ RowKit.Below (grow (redrawn w d) os).heap.size (grow (redrawn w d) os) w' := h d os
section
variable {w0 w : World} {gs : Nat} {A A2 A3 A4 : Option Addr} {c n m nn k : Nat} {ps : List Crane} {ls : List Lift} {rows : List (Row Bool)} {ns : List Int}
theorem AW.lift {lb lf : Nat} {p : Lift} (h : AW w0 w gs A c n ps (some ⟨lb, lf, none⟩) m ls A3 rows A4 nn ns) (hk : k < m) (hx : ls[k]? = some p) :
    w.cell? ⟨lb, lf + k * 9, none⟩ = some (.string p.v.name) ∧ w.cell? ⟨lb, lf + k * 9 + 1, none⟩ = some (.int .i64 p.v.weight) ∧ w.cell? ⟨lb, lf + k * 9 + 2, none⟩ = some (.int .i64 p.v.fx) ∧ w.cell? ⟨lb, lf + k * 9 + 3, none⟩ = some (.int .i64 p.v.fy) ∧ w.cell? ⟨lb, lf + k * 9 + 4, none⟩ = some (.int .i64 p.v.tx) ∧ w.cell? ⟨lb, lf + k * 9 + 5, none⟩ = some (.int .i64 p.v.ty) ∧ w.cell? ⟨lb, lf + k * 9 + 6, none⟩ = some (.int .i64 p.v.height) ∧ w.cell? ⟨lb, lf + k * 9 + 7, none⟩ = some (.int .i64 p.v.deadline) ∧ w.cell? ⟨lb, lf + k * 9 + 8, none⟩ = some (.slice p.r.a p.r.n p.r.cap) := by
  obtain ⟨b, off, p2, eA, hx2, _, hbl, hrow, hc⟩ := Lift.at h.lifts hk
  obtain ⟨rfl, rfl⟩ : lb = b ∧ lf = off := by injection eA with eA; injection eA with e1 e2; exact ⟨e1, e2⟩
  obtain rfl : p2 = p := Option.some.inj (hx2.symm.trans hx)
  exact hc
theorem AW.crane {gb go : Nat} {q : Crane} (h : AW w0 w gs (some ⟨gb, go, none⟩) c n ps A2 m ls A3 rows A4 nn ns) (hk : k < n) (hx : ps[k]? = some q) :
    Arr ChartStep.cs 2 w w0.heap.size w.heap.size q.r.a q.r.n q.r.xs ∧ w.cell? ⟨gb, go + k * 7, none⟩ = some (.string q.v.name) ∧ w.cell? ⟨gb, go + k * 7 + 1, none⟩ = some (.int .i64 q.v.ax) ∧ w.cell? ⟨gb, go + k * 7 + 2, none⟩ = some (.int .i64 q.v.ay) ∧ w.cell? ⟨gb, go + k * 7 + 3, none⟩ = some (.int .i64 q.v.height) ∧ w.cell? ⟨gb, go + k * 7 + 4, none⟩ = some (.int .i64 q.v.jib) ∧ w.cell? ⟨gb, go + k * 7 + 5, none⟩ = some (.int .i64 q.v.back) ∧ w.cell? ⟨gb, go + k * 7 + 6, none⟩ = some (.slice q.r.a q.r.n q.r.cap) := by
  obtain ⟨b, off, q2, eA, hx2, _, hbl, hrow, hc⟩ := Crane.at h.cranes hk
  obtain ⟨rfl, rfl⟩ : gb = b ∧ go = off := by injection eA with eA; injection eA with e1 e2; exact ⟨e1, e2⟩
  obtain rfl : q2 = q := Option.some.inj (hx2.symm.trans hx)
  exact ⟨hrow, hc⟩
theorem AW.row {tb tf : Nat} {r : Row Bool} (h : AW w0 w gs A c n ps A2 m ls (some ⟨tb, tf, none⟩) rows A4 nn ns) (hk : k < m) (hx : rows[k]? = some r) : w.cell? ⟨tb, tf + k, none⟩ = some (.slice r.a r.n r.cap) := by
  obtain ⟨b, off, r2, eA, hx2, _, hbl, hc⟩ := h.table.cells hk
  obtain ⟨rfl, rfl⟩ : tb = b ∧ tf = off := by injection eA with eA; injection eA with e1 e2; exact ⟨e1, e2⟩
  obtain rfl : r2 = r := Option.some.inj (hx2.symm.trans hx)
  have := hc 0 _ rfl
  simpa using this
theorem AW.bit {rb rf i rcap : Nat} {xs : List Bool} {b : Bool} (h : AW w0 w gs A c n ps A2 m ls A3 rows A4 nn ns) (hx : (⟨some ⟨rb, rf, none⟩, n, rcap, xs⟩ : Row Bool) ∈ rows) (hi : i < n) (hb : xs[i]? = some b) : w.cell? ⟨rb, rf + i, none⟩ = some (.bool b) := by
  obtain ⟨b2, off, y, eA, hx2, _, hbl, hc⟩ := (h.rows _ hx).2.cells hi
  obtain ⟨rfl, rfl⟩ : rb = b2 ∧ rf = off := by injection eA with eA; injection eA with e1 e2; exact ⟨e1, e2⟩
  obtain rfl : y = b := Option.some.inj (hx2.symm.trans hb)
  have := hc 0 _ rfl
  simpa using this
end
end Go.Proofs.Ytnidnmbicnhflaa
