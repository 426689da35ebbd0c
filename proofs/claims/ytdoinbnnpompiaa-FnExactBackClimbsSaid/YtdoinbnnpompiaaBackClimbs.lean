/- BackClimbs of the program hands back backXs and backCode. -/
import Derived.Test.YtdoinbnnpompiaaBackIter
import Derived.Test.YtdoinbnnpompiaaSpecBack
import Derived.Maps.AppendAt
import Derived.IntWalk
import Derived.Test.YtdoinbnnpompiaaSteps
import Derived.RangeFuncBound
import Derived.RangeFuncCalls
namespace Go.Proofs.Ytdoinbnnpompiaa
open Go.RowKit Go.Shelf
set_option linter.unusedVariables false
attribute [local go_sem] Oper.semAt_some

theorem blk_own {β : Type} (B : Nat) (t : TypeId) (cs : Array Value) : Go.Own (fun (_ : β) W => Blk W B t cs) := fun s X Y row hs hg hrow =>
  (hg.block B (heap_lt hs) (fun e => by obtain ⟨o, ho, hc⟩ := hrow B e.symm; rw [show X.heap[B]? = _ from hs] at ho; cases ho; cases hc)).trans hs
abbrev bEnc (x : Nat × Climb) : Array Value := #[.int .i64 (x.1 : Int), .agg #[.int .i64 x.2.crane, .int .i64 x.2.sections]]
def negW (c : Climb) : Climb := ⟨c.crane, wrap64 (-c.sections)⟩
def negs (pre : List (Nat × Climb)) : List Climb := pre.map fun p => negW p.2
theorem backRev_mem (xs : List Climb) : ∀ k, k ≤ xs.length → ∀ p ∈ backRev xs k, p.2 ∈ xs
  | 0, _, p, hp => by cases hp
  | k + 1, hk, p, hp => by
    have h : xs[xs.length - 1 - k]? = some (xs[xs.length - 1 - k]'(by omega)) := List.getElem?_eq_getElem _
    rw [backRev_step rfl h] at hp
    rcases List.mem_append.1 hp with hp | hp
    · exact backRev_mem xs k (by omega) p hp
    · rw [List.mem_singleton] at hp; subst hp; exact List.getElem_mem _
theorem negs_snoc (pre : List (Nat × Climb)) (x : Nat × Climb) : negs (pre ++ [x]) = negs pre ++ [negW x.2] := by simp [negs]
theorem negs_len (pre : List (Nat × Climb)) : (negs pre).length = pre.length := by simp [negs]

set_option maxHeartbeats 1000000 in
theorem backward_in (F : Fence) (n : Nat) (h5 : F.fn 147) (hro : F.round = none) (A : Option Addr) (m c : Nat) (w : World) :
    CallsIn F n Try.prog 147 #[.slice A m c] w fun e w' => e = .returned (.func (.func 209) #[] #[.pointer (some ⟨w.heap.size, 0, none⟩)]) ∧ w' = w.alloc (.cells #[.slice A m c] 102) := by
  refine callsIn_of_wp Try.func147 rfl h5 ?_ hro
  simp only [Try.ntmps147, List.size_toArray, List.length_cons, List.length_nil, Nat.reduceAdd, Nat.reduceSub, Array.replicate_succ, Array.replicate_zero, List.push_toArray, List.append_toArray, List.nil_append, List.cons_append]
  gi_wp2
  go_ret
  exact ⟨rfl, rfl⟩

theorem back_stops (F : Fence) (n : Nat) (h7 : F.fn 209) (hro : F.round = none) (hn : 1 ≤ n) (Bs n₀ b off len cap : Nat) (A : Option Addr) (zs : List Climb) (hl : zs.length = len) (hl60 : len ≤ 60) (hb : 0 < len → A = some ⟨b, off, none⟩ ∧ b < n₀) (w : World)
    (hBs : w.cell? ⟨Bs, 0, none⟩ = some (.slice A len cap)) (hBw : Bs < w.heap.size) (hn₀ : n₀ ≤ w.heap.size)
    (hc0 : ∀ j x, zs[j]? = some x → w.cell? ⟨b, off + j * 2, none⟩ = some (.int .i64 x.crane)) (hc1 : ∀ j x, zs[j]? = some x → w.cell? ⟨b, off + j * 2 + 1, none⟩ = some (.int .i64 x.sections)) :
    SeqStopsK F n Try.prog 209 #[.pointer (some ⟨Bs, 0, none⟩)] bEnc (BK n₀ Bs) (fun ys => ys = backRev zs len) (fun pre => ∃ k, k ≤ len ∧ pre = backRev zs k) len w := fun l J Jx W hW _ _ hY h0 => by
  have hz : ∀ (j : Nat) (x : Climb), zs[j]? = some x → b < w.heap.size := fun j x hx => by
    have := (List.getElem?_eq_some_iff.1 hx).1
    have := (hb (by omega)).2; omega
  exact back1_in F n h7 hro hn l Bs n₀ b off len cap A zs hl hl60 hb J Jx hY W ((hW.cell (p := ⟨Bs, 0, none⟩) hBw).trans hBs) (fun j x hx => (hW.cell (p := ⟨b, off + j * 2, none⟩) (hz j x hx)).trans (hc0 j x hx)) (fun j x hx => (hW.cell (p := ⟨b, off + j * 2 + 1, none⟩) (hz j x hx)).trans (hc1 j x hx)) h0

set_option maxRecDepth 100000 in
set_option maxHeartbeats 2000000 in
theorem backClimbs_yes (A : Option Addr) (n c : Nat) (ps : List Climb) (w : World) (lo : Nat) (h : Arr Climb.cs 2 w lo w.heap.size A n ps) (hn : n ≤ 1048576) (hok : climbsOk ps = true) :
    Calls Try.prog 69 #[.slice A n c] w (RetS Climb.cs 2 197 (backXs ps) (backCode ps) w) := by
  have hl := h.1
  have H60 : n ≤ 60 := by have := climbsOk_len hok; rw [h.1] at this; exact this
  have H : Hid (backXs ps = backTo ps n ∧ backCode ps = 0) := by show _ ∧ _; unfold backXs backCode; rw [hok, hl]; exact ⟨rfl, rfl⟩
  have HO := Lib.hid hok
  have hab : ∃ b off, (0 < n → A = some ⟨b, off, none⟩ ∧ b < w.heap.size) ∧ (∀ j x, ps[j]? = some x → w.cell? ⟨b, off + j * 2, none⟩ = some (.int .i64 x.crane)) ∧ (∀ j x, ps[j]? = some x → w.cell? ⟨b, off + j * 2 + 1, none⟩ = some (.int .i64 x.sections)) := by
    by_cases h0 : 0 < n
    · obtain ⟨b, off, e1, _, h2, h3⟩ := h.2 h0
      exact ⟨b, off, fun _ => ⟨e1, h2⟩, fun j x hx => h3 j x hx 0 _ rfl, fun j x hx => h3 j x hx 1 _ rfl⟩
    · refine ⟨0, 0, fun h9 => absurd h9 h0, fun j x hx => ?_, fun j x hx => ?_⟩
      · have := (List.getElem?_eq_some_iff.1 hx).1; omega
      · have := (List.getElem?_eq_some_iff.1 hx).1; omega
  obtain ⟨b, off, hb, hc0, hc1⟩ := hab
  obtain ⟨i0, hi, hz0, hz1, hz2⟩ := info_parts infoClimb
  refine (callsIn_wide (n := 5)).1 ?_
  have hro : Fence.wide.round = none := rfl
  refine callsIn_of_wp_marks Try.func69 rfl trivial ?_ hro
  simp only [Try.ntmps69, List.size_toArray, List.length_cons, List.length_nil, Nat.reduceAdd, Nat.reduceSub, Array.replicate_succ, Array.replicate_zero, List.push_toArray, List.append_toArray, List.nil_append, List.cons_append]
  gi_wp2_with fail
  refine ⟨trivial, ?_⟩
  refine (callsIn_wide.2 (climbsOk_any A n c ps _ lo h (by omega))).mono ?_
  rintro e w1 ⟨rfl, hb1⟩
  rw [HO.out]
  have hs1 := hb1.size
  gi_wp2_with fail
  refine ⟨trivial, ?_⟩
  refine (backward_in Fence.wide _ trivial hro A n c _).mono ?_
  rintro e w2 ⟨rfl, hw2⟩
  gi_wp2_with fail
  have bO : Boxed w2 w1.heap.size 102 (.slice none 0 0) := by rw [hw2]; exact (Boxed.new w1 102 _).alloc _
  have bS : Boxed w2 (w1.heap.size + 1) 102 (.slice A n c) := by
    rw [hw2]
    have := Boxed.new (w1.alloc (.cells #[.slice none 0 0] 102)) 102 (.slice A n c)
    rwa [World.size_alloc] at this
  have hB0 : Below w.heap.size w w2 := by rw [hw2]; exact (hb1.alloc hs1 _).alloc (by simp; omega) _
  have hsz : w2.heap.size = w1.heap.size + 2 := by rw [hw2]; simp
  rw [← hw2]
  clear hw2
  have hbw : 0 < n → A = some ⟨b, off, none⟩ ∧ b < w1.heap.size := fun h0 => ⟨(hb h0).1, Nat.lt_of_lt_of_le (hb h0).2 hs1⟩
  have hd0 : ∀ j x, ps[j]? = some x → w2.cell? ⟨b, off + j * 2, none⟩ = some (.int .i64 x.crane) := fun j x hx => (hB0.cell (p := ⟨b, off + j * 2, none⟩) (hb (by have := (List.getElem?_eq_some_iff.1 hx).1; omega)).2).trans (hc0 j x hx)
  have hd1 : ∀ j x, ps[j]? = some x → w2.cell? ⟨b, off + j * 2 + 1, none⟩ = some (.int .i64 x.sections) := fun j x hx => (hB0.cell (p := ⟨b, off + j * 2 + 1, none⟩) (hb (by have := (List.getElem?_eq_some_iff.1 hx).1; omega)).2).trans (hc1 j x hx)
  have HBT : Hid (negs (backRev ps n) = backTo ps n) := by
    show _ = _
    rw [← backRev_neg ps n (by omega)]
    unfold negs
    apply List.map_congr_left
    intro p hp
    have hm := climbsOk_mem HO.out (backRev_mem ps n (by omega) p hp)
    have := cOk_sec hm
    unfold negW negC
    rw [show wrap64 (-p.2.sections) = -p.2.sections from by unfold wrap64; omega]
  clear hc0 hc1 hb h hok
  refine wpIn_rangeFunc_ownH hro (by omega : 1 ≤ 5) (gf := 209) (lb := #[.pointer (some ⟨w1.heap.size + 1, 0, none⟩)]) rfl trivial (enters_of Try.func209 (by kernel_rfl) rfl)
    (back_stops Fence.wide (5 - 1) trivial hro (by omega) (w1.heap.size + 1) w1.heap.size b off n c A ps hl H60 hbw w2 bS.cell (by omega) (by omega) hd0 hd1)
    (fun h k => h.trans k) (fun W l o o' hl ho hc hw => ⟨belowK_b (by omega) W l o o' hl ho hc hw, (grownBy_putObj' W l o').block _ (by have := (Array.getElem?_eq_some_iff.1 ho).1; omega) (fun e => by cases e; omega)⟩) (Below.refl _ _) (fun _ => rfl)
    (fun pre W => ((∃ v, Boxed W w1.heap.size 102 v ∧ W.ownsRow w1.heap.size 197 2 v (negs pre).length ((negs pre).flatMap Climb.cs) ∧ True) ∧ Boxed W (w1.heap.size + 1) 102 (.slice A n c)) ∧ Below w.heap.size w W)
    (fun _ _ _ => False)
    (OwnFrom.and (OwnFrom.and (Own.from (holdsRow_own w1.heap.size w1.heap.size 102 197 2 (fun pre => (negs pre).length) (fun pre => (negs pre).flatMap Climb.cs) (fun _ _ => True)) _) (Own.from (boxed_own _ _ _) _)) (ownFrom_below (Nat.le_refl _) (by omega)))
    (fun _ _ _ _ _ hs _ _ => hs)
    ⟨⟨⟨_, bO, World.ownsRow_nil _ _ _ _, trivial⟩, bS⟩, hB0⟩
    (fun x a' W => ∃ Bx, w1.heap.size + 1 < Bx ∧ Blk W Bx 197 #[.int .i64 x.2.crane, .int .i64 x.2.sections] ∧ a' = { tmps := #[.slice A n c, undef, .slice none 0 0, .int .i64 0, .pointer (some ⟨w1.heap.size, 0, none⟩), undef, .pointer (some ⟨Bx, 0, none⟩), .slice A n c, .bool true, .bool false, .slice A n c, .func (.func 209) #[] #[.pointer (some ⟨w1.heap.size + 1, 0, none⟩)], .int .i64 (x.1 : Int), .agg #[.int .i64 x.2.crane, .int .i64 x.2.sections], undef, undef, undef, undef, undef, undef, undef, undef, undef, undef], defers := [] })
    (fun x a' _ X Y row hs hg hr => by obtain ⟨Bx, h1, h2, h3⟩ := hs; exact ⟨Bx, h1, blk_own Bx 197 _ () X Y row h2 hg (fun r e => (hr r e).2), h3⟩)
    ?assign ?body ?done ?stop
  case assign =>
    rintro l pre x W K ⟨⟨⟨v, hv, hrow, _⟩, bS1⟩, hB1⟩ hK
    gi_wp2
    exact hK _ _ ((KeepsOthers.alloc _ _).from _) ⟨(Below.refl _ W).alloc (Nat.le_of_lt hv.lt) _, Below.heap_alloc _ _ _ bS1.lt⟩ ⟨⟨⟨v, hv.alloc _, hrow.alloc _, trivial⟩, bS1.alloc _⟩, hB1.alloc hB1.size _⟩ ⟨W.heap.size, bS1.lt, Blk.new W _ _, rfl⟩
  case body =>
    rintro l pre x a' W hlr ⟨r, hr⟩ ⟨⟨⟨v, hv, hrow, _⟩, bS1⟩, hB1⟩ ⟨Bx, hBx, bX, rfl⟩ hlt
    have hc := hv.cell
    have hx0 := (bX.cell 0).trans rfl
    have hx1 := (bX.cell 1).trans rfl
    have hpl : (negs pre).length ≤ pre.length := Nat.le_of_eq (negs_len pre)
    have hnr := Boxed.not_row (e := 197) bS1 (by decide) hrow
    gi_wp2_with (gi_at_builtin; refine wpListIn_append_own _ rfl _ _ 102 rfl w1.heap.size 197 i0 _ 2 16 Try.underlying102 hi hz0 hz1 hz2 rfl (by decide) v (negs pre).length ((negs pre).flatMap Climb.cs) rfl (hrow.alloc _) ⟨W.heap.size, 0, none⟩ 1 1 (negW x.2).cs rfl rfl (World.news_of_block (cs := #[.int .i64 x.2.crane, .int .i64 (wrap64 (-x.2.sections))]) (t := 197) (fr := (0, 0)) (heap_alloc_new W _)) (Climb.cs_one (negW x.2)) (by unfold maxLen; omega) (by omega) (by have := hv.lt; simp; omega) ?_; intro v' w5 hown' hgrow _; obtain ⟨g', cap', rfl⟩ := ownsRow_succ hown'; obtain ⟨hv1, hv2, hr2, hk2, hb2⟩ := hv.appended (by decide) hrow (Nat.le_of_lt hv.lt) (Nat.le_refl _) hown' hgrow; have hc1 := hv1.cell; have hf1 := hv1.frozen)
    have hS5 : Boxed w5 (w1.heap.size + 1) 102 (.slice A n c) := (bS1.alloc _).kept hgrow hnr
    have hS6 := hS5.other (B' := w1.heap.size) (by omega) (.slice (some ⟨g', 0, none⟩) ((negs pre).length + 1) cap')
    have hr3 : (w5.setCell ⟨w1.heap.size, 0, none⟩ (.slice (some ⟨g', 0, none⟩) ((negs pre).length + 1) cap')).ownsRow w1.heap.size 197 2 (.slice (some ⟨g', 0, none⟩) ((negs pre).length + 1) cap') (negs (pre ++ [x])).length ((negs (pre ++ [x])).flatMap Climb.cs) := by
      rw [negs_snoc, List.length_append, List.flatMap_append]
      simpa using hr2
    exact ⟨hk2.from _, ⟨hb2, (show (w5.setCell _ _).heap[w1.heap.size + 1]? = _ from hS6).trans (show W.heap[w1.heap.size + 1]? = _ from bS1).symm⟩, ⟨⟨_, hv2, hr3, trivial⟩, hS6⟩, hB1.trans (hb2.mono hs1)⟩
  case done =>
    rintro D ys W hD rfl ⟨⟨⟨v, hv, hrow, _⟩, bS1⟩, hB1⟩ hK
    have hc := hv.cell
    gi_wp2
    refine ⟨by simp, .inl ⟨_, _, rfl, run_takeDeferred hK, ?_⟩⟩
    refine ⟨_, results_tmp2 rfl _ _ _, ?_⟩
    have hr9 : Grow Climb.cs 2 (W.putObj D (.deferred none)) w.heap.size 197 v (backXs ps) := by
      rw [H.out.1, ← HBT.out]
      exact Grow.less (ownsRow_putObj hrow _ hK rfl) hs1
    have hb9 := hB1.trans (belowK_b (w := w) (Nat.le_refl _) W D _ (.deferred none) (by omega) hK rfl rfl)
    have := hr9.rets (code := backCode ps) Climb.cs_len hb9
    rw [H.out.2] at this ⊢
    exact this
  case stop =>
    rintro D c pre W _ _ h _
    exact h.elim

theorem backClimbs_any (A : Option Addr) (n c : Nat) (ps : List Climb) (w : World) (lo : Nat) (h : Arr Climb.cs 2 w lo w.heap.size A n ps) (hn : n ≤ 1048576) :
    Calls Try.prog 69 #[.slice A n c] w (RetS Climb.cs 2 197 (backXs ps) (backCode ps) w) := by
  cases h1 : climbsOk ps
  · have H : Hid (backXs ps = [] ∧ backCode ps = 1) := by show _ ∧ _; unfold backXs backCode; rw [h1]; exact ⟨rfl, rfl⟩
    go_enter Try.func69, Try.ntmps69
    go_wp2_with fail
    refine (climbsOk_any A n c ps _ lo h (by omega)).mono ?_
    rintro e w1 ⟨rfl, hb⟩
    go_wp2
    go_ret2
    rw [H.out.1, H.out.2]; exact RetS.nil hb
  · exact backClimbs_yes A n c ps w lo h hn h1
end Go.Proofs.Ytdoinbnnpompiaa
