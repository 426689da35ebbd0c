/- Made by merge.py of XZone11, XZone12, XZone13. -/
import Derived.Test.YtdhobglhjdgboaaDoorZone2
import Derived.Test.YtdhobglhjdgboaaDoorZone10
import Derived.StillTailTactics
import Derived.Test.YtdhobglhjdgboaaDoorZone6
/- XZone11: meets of the program: its closure. -/
namespace Go.Proofs.YtdhobglhjdgboaaDoor
open Go.RowKit Go.Sort
set_option linter.unusedVariables false

/-- bounds of the fractions that the clipping handles -/
structure FB (a : Int × Int) : Prop where
  n0 : 0 ≤ a.1
  n1 : a.1 ≤ 1152400000
  d0 : 0 < a.2
  d1 : a.2 ≤ 2304800000
theorem FB.mul {a b : Int × Int} (ha : FB a) (hb : FB b) : 0 ≤ a.1 * b.2 ∧ a.1 * b.2 ≤ 2656051520000000000 := by
  have := ha.n0; have := ha.n1; have := hb.d0; have := hb.d1
  exact ⟨Int.mul_nonneg (by omega) (by omega), Int.mul_le_mul (c := 1152400000) (d := 2304800000) (by omega) (by omega) (by omega) (by omega)⟩
theorem FB.later {a b : Int × Int} (ha : FB a) (hb : FB b) : FB (laterF a b) := by unfold laterF; split <;> assumption
theorem FB.earlier {a b : Int × Int} (ha : FB a) (hb : FB b) : FB (earlierF a b) := by unfold earlierF; split <;> assumption
set_option maxHeartbeats 800000 in
theorem later_any (a b : Int × Int) (w : World) (ha : FB a) (hb : FB b) :
    Calls Tryd.prog 174 #[.agg #[.int .i64 a.1, .int .i64 a.2], .agg #[.int .i64 b.1, .int .i64 b.2]] w fun e w' => e = .returned (.agg #[.int .i64 (laterF a b).1, .int .i64 (laterF a b).2]) ∧ Below w.heap.size w w' := by
  obtain ⟨m1, m2⟩ := ha.mul hb
  obtain ⟨m3, m4⟩ := hb.mul ha
  by_cases h : a.1 * b.2 < b.1 * a.2
  · have HE : Hid (laterF a b = b) := by show _ = _; unfold laterF; rw [if_pos h]
    rw [HE.out]
    obtain ⟨a1, a2⟩ := a
    obtain ⟨b1, b2⟩ := b
    dsimp only at *
    clear HE ha hb
    go_enter Tryd.func174, Tryd.ntmps174
    go_wp2
    exact bodyPost_ret (v := .agg #[.int .i64 b1, .int .i64 b2]) (by simp [results, Tryd.results174, go_sem]) rfl ⟨rfl, (((Below.refl _ _).alloc (Nat.le_refl _) _).alloc (by simp) _).alloc (by simp; omega) _⟩
  · have HE : Hid (laterF a b = a) := by show _ = _; unfold laterF; rw [if_neg h]
    rw [HE.out]
    obtain ⟨a1, a2⟩ := a
    obtain ⟨b1, b2⟩ := b
    dsimp only at *
    clear HE ha hb
    go_enter Tryd.func174, Tryd.ntmps174
    go_wp2
    exact bodyPost_ret (v := .agg #[.int .i64 a1, .int .i64 a2]) (by simp [results, Tryd.results174, go_sem]) rfl ⟨rfl, (((Below.refl _ _).alloc (Nat.le_refl _) _).alloc (by simp) _).alloc (by simp; omega) _⟩
set_option maxHeartbeats 800000 in
theorem earlier_any (a b : Int × Int) (w : World) (ha : FB a) (hb : FB b) :
    Calls Tryd.prog 175 #[.agg #[.int .i64 a.1, .int .i64 a.2], .agg #[.int .i64 b.1, .int .i64 b.2]] w fun e w' => e = .returned (.agg #[.int .i64 (earlierF a b).1, .int .i64 (earlierF a b).2]) ∧ Below w.heap.size w w' := by
  obtain ⟨m1, m2⟩ := ha.mul hb
  obtain ⟨m3, m4⟩ := hb.mul ha
  by_cases h : b.1 * a.2 < a.1 * b.2
  · have HE : Hid (earlierF a b = b) := by show _ = _; unfold earlierF; rw [if_pos h]
    rw [HE.out]
    obtain ⟨a1, a2⟩ := a
    obtain ⟨b1, b2⟩ := b
    dsimp only at *
    clear HE ha hb
    go_enter Tryd.func175, Tryd.ntmps175
    go_wp2
    exact bodyPost_ret (v := .agg #[.int .i64 b1, .int .i64 b2]) (by simp [results, Tryd.results175, go_sem]) rfl ⟨rfl, (((Below.refl _ _).alloc (Nat.le_refl _) _).alloc (by simp) _).alloc (by simp; omega) _⟩
  · have HE : Hid (earlierF a b = a) := by show _ = _; unfold earlierF; rw [if_neg h]
    rw [HE.out]
    obtain ⟨a1, a2⟩ := a
    obtain ⟨b1, b2⟩ := b
    dsimp only at *
    clear HE ha hb
    go_enter Tryd.func175, Tryd.ntmps175
    go_wp2
    exact bodyPost_ret (v := .agg #[.int .i64 a1, .int .i64 a2]) (by simp [results, Tryd.results175, go_sem]) rfl ⟨rfl, (((Below.refl _ _).alloc (Nat.le_refl _) _).alloc (by simp) _).alloc (by simp; omega) _⟩

/-- the points and what is left of the line, in boxes -/
structure CI (bp bq bl : Nat) (p q : Pnt) (l h : Int × Int) (X : World) : Prop where
  pp : Blk X bp 41 #[.int .i64 p.x, .int .i64 p.y]
  qq : Blk X bq 41 #[.int .i64 q.x, .int .i64 q.y]
  ll : Blk X bl 76 #[.int .i64 l.1, .int .i64 l.2]
  hh : Blk X (bl + 1) 76 #[.int .i64 h.1, .int .i64 h.2]
theorem CI.bel {bp bq bl : Nat} {p q : Pnt} {l h : Int × Int} {X Y : World} (c : CI bp bq bl p q l h X) (hb : Below X.heap.size X Y) : CI bp bq bl p q l h Y := ⟨c.pp.bel hb, c.qq.bel hb, c.ll.bel hb, c.hh.bel hb⟩
theorem Blk.pair {w : World} {g : Nat} {t : TypeId} {x y : Value} (h : Blk w g t #[x, y]) (u v : Value) : Blk ((w.setCell ⟨g, 0, none⟩ u).setCell ⟨g, 1, none⟩ v) g t #[u, v] := by
  have h2 := (h.set_ 0 u).set_ 1 v
  have e : ((#[x, y] : Array Value).setIfInBounds 0 u).setIfInBounds 1 v = #[u, v] := rfl
  rwa [e] at h2
theorem CI.low {bp bq bl : Nat} {p q : Pnt} {l h : Int × Int} {X : World} (c : CI bp bq bl p q l h X) (h1 : bp < bl) (h2 : bq < bl) (l2 : Int × Int) : CI bp bq bl p q l2 h ((X.setCell ⟨bl, 0, none⟩ (.int .i64 l2.1)).setCell ⟨bl, 1, none⟩ (.int .i64 l2.2)) :=
  ⟨(c.pp.far (by show bp ≠ bl; omega) _).far (by show bp ≠ bl; omega) _, (c.qq.far (by show bq ≠ bl; omega) _).far (by show bq ≠ bl; omega) _, Blk.pair c.ll _ _, (c.hh.far (by show bl + 1 ≠ bl; omega) _).far (by show bl + 1 ≠ bl; omega) _⟩
theorem CI.high {bp bq bl : Nat} {p q : Pnt} {l h : Int × Int} {X : World} (c : CI bp bq bl p q l h X) (h1 : bp < bl) (h2 : bq < bl) (l2 : Int × Int) : CI bp bq bl p q l l2 ((X.setCell ⟨bl + 1, 0, none⟩ (.int .i64 l2.1)).setCell ⟨bl + 1, 1, none⟩ (.int .i64 l2.2)) :=
  ⟨(c.pp.far (by show bp ≠ bl + 1; omega) _).far (by show bp ≠ bl + 1; omega) _, (c.qq.far (by show bq ≠ bl + 1; omega) _).far (by show bq ≠ bl + 1; omega) _, (c.ll.far (by show bl ≠ bl + 1; omega) _).far (by show bl ≠ bl + 1; omega) _, Blk.pair c.hh _ _⟩
def clipLow (l : Int × Int) (m r : Int) : Int × Int := if m < 0 ∧ ¬ r < 0 then laterF l (-m, r - m) else l
def clipHigh (h : Int × Int) (m r : Int) : Int × Int := if r < 0 ∧ ¬ m < 0 then earlierF h (m, m - r) else h
def TwoAt (p q : Pnt) (m r : Int) (x : Pnt) (v : Int) : Prop := (x = p ∧ v = m) ∨ (x = q ∧ v = r)
def ClipEnd (bp bq bl : Nat) (p q : Pnt) (l h : Int × Int) (m r : Int) (w : World) (e : Ending) (w' : World) : Prop :=
  Within bl (bl + 2) w w' ∧ ((e = .returned (.bool true) ∧ ¬ (m < 0 ∧ r < 0) ∧ CI bp bq bl p q (clipLow l m r) (clipHigh h m r) w') ∨ (e = .returned (.bool false) ∧ m < 0 ∧ r < 0))
set_option maxRecDepth 100000 in
set_option maxHeartbeats 3200000 in
theorem clip1_any (bp bq bl k : Nat) (a b p q : Pnt) (l h : Int × Int) (w : World) (c : CI bp bq bl p q l h w) (h1 : bp < bl) (h2 : bq < bl) (ha : plcW a.x a.y = true) (hb : plcW b.x b.y = true) (hp : plcW p.x p.y = true) (hq : plcW q.x q.y = true) (hl : FB l) (hh : FB h) :
    Calls Tryd.prog 173 #[.int .i64 (k : Int), .agg #[.int .i64 a.x, .int .i64 a.y], .agg #[.int .i64 b.x, .int .i64 b.y], .pointer (some ⟨bp, 0, none⟩), .pointer (some ⟨bq, 0, none⟩), .pointer (some ⟨bl, 0, none⟩), .pointer (some ⟨bl + 1, 0, none⟩)] w (ClipEnd bp bq bl p q l h (crs a b p) (crs a b q) w) := by
  obtain ⟨W, hW⟩ : ∃ W : World, W = (w.alloc (.cells #[.int .i64 a.x, .int .i64 a.y] 41)).alloc (.cells #[.int .i64 b.x, .int .i64 b.y] 41) := ⟨_, rfl⟩
  have B0 : Below w.heap.size w W := by rw [hW]; exact ((Below.refl _ _).alloc (Nat.le_refl _) _).alloc (by simp) _
  have P0 : Blk W w.heap.size 41 #[.int .i64 a.x, .int .i64 a.y] := by rw [hW]; exact (Blk.new _ _ _).alloc _
  have P1 : Blk W (w.heap.size + 1) 41 #[.int .i64 b.x, .int .i64 b.y] := by rw [hW]; exact Blk.new_at rfl (by simp)
  have S1 := Lib.hid (fun W => side_any a b p W ha hb hp)
  have S2 := Lib.hid (fun W => side_any a b q W ha hb hq)
  have SS : Hid (∀ (W : World) (x : Pnt) (v : Int), TwoAt p q (crs a b p) (crs a b q) x v → Calls Tryd.prog 116 #[.agg #[.int .i64 a.x, .int .i64 a.y], .agg #[.int .i64 b.x, .int .i64 b.y], .agg #[.int .i64 x.x, .int .i64 x.y]] W fun e w' => e = .returned (.int .i64 v) ∧ Below W.heap.size W w') := fun W x v hx => by
    rcases hx with ⟨rfl, rfl⟩ | ⟨rfl, rfl⟩
    · exact S1.out W
    · exact S2.out W
  have t1 : TwoAt p q (crs a b p) (crs a b q) p (crs a b p) := .inl ⟨rfl, rfl⟩
  have t2 : TwoAt p q (crs a b p) (crs a b q) q (crs a b q) := .inr ⟨rfl, rfl⟩
  clear S1 S2
  have b1 := crs_small ha hb hp
  have b2 := crs_small ha hb hq
  have M1 : Hid (-1152400000 ≤ crs a b p ∧ crs a b p ≤ 1152400000) := ⟨b1.1, b1.2.1⟩
  have M2 : Hid (-1152400000 ≤ crs a b q ∧ crs a b q ≤ 1152400000) := ⟨b2.1, b2.2.1⟩
  generalize crs a b p = m at *
  generalize crs a b q = r at *
  have HC := Lib.hid (c.bel B0)
  have HB0 := Lib.hid B0
  obtain ⟨p0, p1⟩ := Pnt.blk HC.out.pp
  obtain ⟨q0, q1⟩ := Pnt.blk HC.out.qq
  obtain ⟨a0, a1⟩ := Pnt.blk P0
  obtain ⟨c0, c1⟩ := Pnt.blk P1
  have p0' := cell_regrown p0
  have p1' := cell_regrown p1
  have q0' := cell_regrown q0
  have q1' := cell_regrown q1
  have a0' := cell_regrown a0
  have a1' := cell_regrown a1
  have c0' := cell_regrown c0
  have c1' := cell_regrown c1
  have HL := Lib.hid hl
  have HH := Lib.hid hh
  clear c B0 P0 P1 b1 b2 ha hb hp hq p0 p1 q0 q1 a0 a1 c0 c1 hl hh
  go_enter Tryd.func173, Tryd.ntmps173
  go_wp2
  rw [← hW]
  clear hW
  refine wp_region_quiet_below (by kernel_rfl) (by kernel_rfl) ?_
  repeat (go_big_quiet_step (first | (go_at_call 116; exact Calls.regrown_of (SS.out _ _ _ (by assumption)))))
  refine wpQuiet_nil ?_
  intro _ hw9
  obtain ⟨⟨dq, osq⟩, hw9⟩ := hw9
  subst hw9
  have hb5 := below_regrown W dq osq
  dsimp only at hb5 ⊢
  generalize grow (redrawn W dq) osq = w5 at hb5 ⊢
  have HC5 := Lib.hid (HC.out.bel hb5)
  have HB5 := Lib.hid (HB0.out.trans (hb5.mono HB0.out.size))
  obtain ⟨hm1, hm2⟩ := M1.out
  obtain ⟨hr1, hr2⟩ := M2.out
  clear hb5 p0' p1' q0' q1' a0' a1' c0' c1' SS t1 t2 M1 M2
  by_cases x1 : m < 0
  · by_cases x2 : r < 0
    · go_wp2
      go_ret
      exact ⟨Within.of_below _ _ HB5.out, .inr ⟨rfl, x1, x2⟩⟩
    · have HF := Lib.hid (show FB (-m, r - m) from ⟨by show 0 ≤ -m; omega, by show -m ≤ _; omega, by show 0 < r - m; omega, by show r - m ≤ _; omega⟩)
      obtain ⟨l0, l1⟩ := Pnt.blk HC5.out.ll
      have HLT := Lib.hid (fun W => later_any l (-m, r - m) W HL.out HF.out)
      have HN : Hid (clipLow l m r = laterF l (-m, r - m) ∧ clipHigh h m r = h) := ⟨by unfold clipLow; rw [if_pos ⟨x1, x2⟩], by unfold clipHigh; rw [if_neg (by omega)]⟩
      go_wp2_with fail
      refine (HLT.out _).mono ?_
      rintro e w6 ⟨rfl, hb6⟩
      have HC6 := Lib.hid (HC5.out.bel hb6)
      have HB6 := Lib.hid (HB5.out.trans (hb6.mono HB5.out.size))
      have f0 := HC6.out.ll.frozen 0
      have f1 := HC6.out.ll.frozen 1
      clear l0 l1 hb6
      obtain ⟨l0, l1⟩ := Pnt.blk HC6.out.ll
      have hlt := HC6.out.ll.lt
      generalize laterF l (-m, r - m) = l9 at *
      go_wp2
      go_ret
      refine ⟨((Within.of_below _ _ HB6.out).setCell (p := ⟨bl, 0, none⟩) (Nat.le_refl _) (by show bl < bl + 2; omega) _).setCell (p := ⟨bl, 1, none⟩) (Nat.le_refl _) (by show bl < bl + 2; omega) _, .inl ⟨rfl, by omega, ?_⟩⟩
      rw [HN.out.1, HN.out.2]
      exact HC6.out.low h1 h2 _
  · by_cases x2 : r < 0
    · have HF := Lib.hid (show FB (m, m - r) from ⟨by show 0 ≤ m; omega, by show m ≤ _; omega, by show 0 < m - r; omega, by show m - r ≤ _; omega⟩)
      obtain ⟨l0, l1⟩ := Pnt.blk HC5.out.hh
      have HLT := Lib.hid (fun W => earlier_any h (m, m - r) W HH.out HF.out)
      have HN : Hid (clipLow l m r = l ∧ clipHigh h m r = earlierF h (m, m - r)) := ⟨by unfold clipLow; rw [if_neg (by omega)], by unfold clipHigh; rw [if_pos ⟨x2, x1⟩]⟩
      go_wp2_with fail
      refine (HLT.out _).mono ?_
      rintro e w6 ⟨rfl, hb6⟩
      have HC6 := Lib.hid (HC5.out.bel hb6)
      have HB6 := Lib.hid (HB5.out.trans (hb6.mono HB5.out.size))
      have f0 := HC6.out.hh.frozen 0
      have f1 := HC6.out.hh.frozen 1
      clear l0 l1 hb6
      obtain ⟨l0, l1⟩ := Pnt.blk HC6.out.hh
      have hlt := HC6.out.hh.lt
      generalize earlierF h (m, m - r) = l9 at *
      go_wp2
      go_ret
      refine ⟨((Within.of_below _ _ HB6.out).setCell (p := ⟨bl + 1, 0, none⟩) (Nat.le_succ _) (by show bl + 1 < bl + 2; omega) _).setCell (p := ⟨bl + 1, 1, none⟩) (Nat.le_succ _) (by show bl + 1 < bl + 2; omega) _, .inl ⟨rfl, by omega, ?_⟩⟩
      rw [HN.out.1, HN.out.2]
      exact HC6.out.high h1 h2 _
    · have HN : Hid (clipLow l m r = l ∧ clipHigh h m r = h) := ⟨by unfold clipLow; rw [if_neg (by omega)], by unfold clipHigh; rw [if_neg (by omega)]⟩
      go_wp2
      go_ret
      refine ⟨Within.of_below _ _ HB5.out, .inl ⟨rfl, by omega, ?_⟩⟩
      rw [HN.out.1, HN.out.2]
      exact HC5.out
end Go.Proofs.YtdhobglhjdgboaaDoor
/- XZone12: meets and LineMeetsZone of the program. -/
namespace Go.Proofs.YtdhobglhjdgboaaDoor
open Go.RowKit Go.Sort
set_option linter.unusedVariables false

theorem CI.within {bp bq bl : Nat} {p q : Pnt} {l h : Int × Int} {X Y : World} (c : CI bp bq bl p q l h X) (hb : Below X.heap.size X Y) : CI bp bq bl p q l h Y := c.bel hb
/-- what sides answers at meets' closure, the states of the clipping being St -/
def SidesEnd (bp bq bl n : Nat) (p q : Pnt) (St : Nat → (Int × Int) × (Int × Int)) (Bad : Nat → Prop) (w : World) (e : Ending) (w' : World) : Prop :=
  Within bl (bl + 2) w w' ∧ ((e = .returned (.bool true) ∧ (∀ j, j < n → ¬ Bad j) ∧ CI bp bq bl p q (St n).1 (St n).2 w') ∨ (e = .returned (.bool false) ∧ ∃ j, j < n ∧ Bad j))
set_option maxRecDepth 100000 in
set_option maxHeartbeats 3200000 in
theorem sidesMeets_any (z : Zone) (bp bq bl : Nat) (p q : Pnt) (St : Nat → (Int × Int) × (Int × Int)) (Bad : Nat → Prop) (w : World) (lo : Nat) (h : Arr Pnt.cs 2 w lo bl z.r.a z.r.n z.r.xs) (hn : z.r.n ≤ 1048576) (hc : CI bp bq bl p q (St 0).1 (St 0).2 w)
    (hf : ∀ (k : Nat) (W : World), k < z.r.n → CI bp bq bl p q (St k).1 (St k).2 W → Calls Tryd.prog 173 #[.int .i64 (k : Int), .agg #[.int .i64 (pt z.r.xs k).x, .int .i64 (pt z.r.xs k).y], .agg #[.int .i64 (pt z.r.xs (nxN z.r.n k)).x, .int .i64 (pt z.r.xs (nxN z.r.n k)).y], .pointer (some ⟨bp, 0, none⟩), .pointer (some ⟨bq, 0, none⟩), .pointer (some ⟨bl, 0, none⟩), .pointer (some ⟨bl + 1, 0, none⟩)] W fun e W' =>
      Within bl (bl + 2) W W' ∧ ((e = .returned (.bool true) ∧ ¬ Bad k ∧ CI bp bq bl p q (St (k + 1)).1 (St (k + 1)).2 W') ∨ (e = .returned (.bool false) ∧ Bad k))) :
    Calls Tryd.prog 172 #[.agg #[.int .i64 z.v.kind, .int .i64 z.v.storeys, .int .i64 z.v.each, .slice z.r.a z.r.n z.r.cap], .func (.func 173) #[] #[.pointer (some ⟨bp, 0, none⟩), .pointer (some ⟨bq, 0, none⟩), .pointer (some ⟨bl, 0, none⟩), .pointer (some ⟨bl + 1, 0, none⟩)]] w (SidesEnd bp bq bl z.r.n p q St Bad w) := by
  obtain ⟨⟨kind, storeys, each⟩, ⟨A, n, c, cs⟩⟩ := z
  dsimp only at *
  have HF := Lib.hid hf
  obtain ⟨W, hW⟩ : ∃ W : World, W = w.alloc (.cells #[.int .i64 kind, .int .i64 storeys, .int .i64 each, .slice A n c] 127) := ⟨_, rfl⟩
  have hbl := hc.hh.lt
  have B0 : Within bl (bl + 2) w W := by rw [hW]; exact (Within.refl _ _ _).alloc _
  have B1 : Below w.heap.size w W := by rw [hW]; exact (Below.refl _ _).alloc (Nat.le_refl _) _
  have P0 : Blk W w.heap.size 127 #[.int .i64 kind, .int .i64 storeys, .int .i64 each, .slice A n c] := by rw [hW]; exact Blk.new _ _ _
  have hsW := P0.lt
  have HA := Lib.hid (h.below (B1.mono (by omega)))
  have HP0 := Lib.hid P0
  have HB0 := Lib.hid B0
  have HC0 := Lib.hid (hc.bel B1)
  clear h hf B0 B1 P0 hc
  go_enter Tryd.func172, Tryd.ntmps172
  go_wp2
  rw [← hW]
  clear hW
  go_loopw [10, 5, 6] (fun v10 v5 v6 wr => ∃ k : Nat, k ≤ n ∧ v10 = .int .i64 k ∧ (∀ j, j < k → ¬ Bad j) ∧ CI bp bq bl p q (St k).1 (St k).2 wr ∧ Within bl (bl + 2) W wr) (fun v10 _ _ _ => n - (intOf v10).toNat)
  case atStart => exact ⟨0, Nat.zero_le _, rfl, fun j hj => absurd hj (by omega), HC0.out, Within.refl _ _ _⟩
  case round =>
    obtain ⟨k, hk, rfl, ht, hci, hb⟩ := hrel
    have HT := Lib.hid ht
    have HCI := Lib.hid hci
    have hbs := hb.size
    have HBB := Lib.hid (HB0.out.trans hb)
    have HBW := Lib.hid hb
    have HA2 := Lib.hid (HA.out.within hb (by omega) (.inl (Nat.le_refl _)))
    have HPZ : Hid (Blk wr w.heap.size 127 #[.int .i64 kind, .int .i64 storeys, .int .i64 each, .slice A n c]) := (hb.block _ hsW (by omega)).trans HP0.out
    clear ht hci hb
    by_cases hlt : k < n
    · have hk0 : (0 : Int) ≤ (k : Int) := by omega
      have hk1 : (k : Int) < (n : Int) := by omega
      obtain ⟨b', off', u, eA, hp, _, hbl', d0, d1⟩ := Pnt.at HA2.out hlt
      obtain ⟨b'', off'', r, eA', hr', _, hbl'', f0, f1⟩ := Pnt.at HA2.out (nx_lt (n := n) (k := k) (by omega))
      rw [eA] at eA'
      cases eA'
      have HPK : Hid (pt cs k = u) := pt_at hp
      have HPN : Hid (pt cs (nxN n k) = r) := pt_at hr'
      obtain ⟨W5, hW5⟩ : ∃ W5 : World, W5 = wr.alloc (.cells #[.int .i64 u.x, .int .i64 u.y] 41) := ⟨_, rfl⟩
      have hbA : Below wr.heap.size wr W5 := by rw [hW5]; exact (Below.refl _ _).alloc (Nat.le_refl _) _
      have PQ : Blk W5 wr.heap.size 41 #[.int .i64 u.x, .int .i64 u.y] := by rw [hW5]; exact Blk.new _ _ _
      have HFK : Hid (∀ X, CI bp bq bl p q (St k).1 (St k).2 X → Calls Tryd.prog 173 #[.int .i64 (k : Int), .agg #[.int .i64 u.x, .int .i64 u.y], .agg #[.int .i64 r.x, .int .i64 r.y], .pointer (some ⟨bp, 0, none⟩), .pointer (some ⟨bq, 0, none⟩), .pointer (some ⟨bl, 0, none⟩), .pointer (some ⟨bl + 1, 0, none⟩)] X fun e W' =>
          Within bl (bl + 2) X W' ∧ ((e = .returned (.bool true) ∧ ¬ Bad k ∧ CI bp bq bl p q (St (k + 1)).1 (St (k + 1)).2 W') ∨ (e = .returned (.bool false) ∧ Bad k))) := fun X hX => by
        have h9 := HF.out k X hlt hX
        rwa [HPK.out, HPN.out] at h9
      have z3 : W5.cell? ⟨w.heap.size, 3, none⟩ = some (.slice A n c) := ((HPZ.out.bel hbA).cell 3).trans rfl
      obtain ⟨e0, e1⟩ := Pnt.blk PQ
      have r0 := (hbA.cell (p := ⟨b', off' + nxN n k * 2, none⟩) (show b' < wr.heap.size by omega)).trans f0
      have r1 := (hbA.cell (p := ⟨b', off' + nxN n k * 2 + 1, none⟩) (show b' < wr.heap.size by omega)).trans f1
      have HBA := Lib.hid hbA
      have hrem := nx_rem hlt
      have hjn := nx_lt (n := n) (k := k) (by omega)
      generalize nxN n k = j at *
      have hj0 : (0 : Int) ≤ (j : Int) := by omega
      have hj1 : (j : Int) < (n : Int) := by omega
      have hn0 : ¬ (n : Int) = 0 := by omega
      subst eA
      clear hp hr' hbA PQ f0 f1
      go_wp2
      rw [← hW5]
      clear hW5
      have hwr : IntKind.i64.wrap ((k : Int) + 1) = (k : Int) + 1 := IntWalk.i64_in _ ⟨by omega, by omega⟩
      have hnn : ¬ n = 0 := by omega
      have hwj : IntKind.i64.wrap (j : Int) = (j : Int) := IntWalk.i64_in _ ⟨by omega, by omega⟩
      refine wp_region_still_tail 13 (by kernel_rfl) (by kernel_rfl) ?_
      simp only [List.take_succ_cons, List.take_zero, List.drop_succ_cons, List.drop_zero]
      repeat still_step
      refine wpStill_nil ?_
      obtain ⟨W6, hW6⟩ : ∃ W6 : World, W6 = W5.drew := ⟨_, rfl⟩
      have hW7 : ({ W5 with drawn := W5.drawn + 1 } : World) = W6 := hW6.symm
      have HB6 : Hid (Below wr.heap.size wr W6) := by rw [hW6]; exact HBA.out.drew
      rw [hW7]
      clear hW6 hW7 z3 e0 e1 r0 r1
      go_wp2_with fail
      refine (HFK.out W6 (HCI.out.bel HB6.out)).mono ?_
      rintro e w8 ⟨hw8, ⟨rfl, hnb, hc8⟩ | ⟨rfl, hbad⟩⟩
      · have HB8 := Lib.hid ((Within.of_below bl (bl + 2) HB6.out).trans hw8)
        have HNB := Lib.hid hnb
        have HC8 := Lib.hid hc8
        clear hw8 hnb hc8
        go_wp2
        go_roundw
        case rel =>
          refine ⟨k + 1, by omega, by go_num, fun i hi => ?_, HC8.out, HBW.out.trans HB8.out⟩
          rcases Nat.lt_or_ge i k with h9 | h9
          · exact HT.out i h9
          · obtain rfl : i = k := by omega
            exact HNB.out
        case measure => simp [intOf]; omega
      · have HB8 := Lib.hid ((Within.of_below bl (bl + 2) HB6.out).trans hw8)
        have HBD := Lib.hid hbad
        clear hw8 hbad
        go_wp2
        go_ret
        exact ⟨HBB.out.trans HB8.out, .inr ⟨rfl, k, hlt, HBD.out⟩⟩
    · obtain rfl : k = n := by omega
      go_wp2
      go_ret
      exact ⟨HBB.out, .inl ⟨rfl, HT.out, HCI.out⟩⟩
end Go.Proofs.YtdhobglhjdgboaaDoor
/- XZone13: meets and LineMeetsZone of the program. -/
namespace Go.Proofs.YtdhobglhjdgboaaDoor
open Go.RowKit Go.Sort
set_option linter.unusedVariables false

theorem fb_low {m r : Nat → Int} {n : Nat} (h : ∀ j, j < n → (-1152400000 ≤ m j ∧ m j ≤ 1152400000) ∧ (-1152400000 ≤ r j ∧ r j ≤ 1152400000)) {k : Nat} (hk : k ≤ n) : FB (lowTo m r k) := by
  rcases low_is (m := m) (r := r) k with e | ⟨j, hj, h1, h2, e⟩ <;> rw [e]
  · exact ⟨by decide, by decide, by decide, by decide⟩
  · have := h j (by omega)
    exact ⟨by show 0 ≤ -m j; omega, by show -m j ≤ _; omega, by show 0 < r j - m j; omega, by show r j - m j ≤ _; omega⟩
theorem fb_high {m r : Nat → Int} {n : Nat} (h : ∀ j, j < n → (-1152400000 ≤ m j ∧ m j ≤ 1152400000) ∧ (-1152400000 ≤ r j ∧ r j ≤ 1152400000)) {k : Nat} (hk : k ≤ n) : FB (highTo m r k) := by
  rcases high_is (m := m) (r := r) k with e | ⟨j, hj, h1, h2, e⟩ <;> rw [e]
  · exact ⟨by decide, by decide, by decide, by decide⟩
  · have := h j (by omega)
    exact ⟨by show 0 ≤ m j; omega, by show m j ≤ _; omega, by show 0 < m j - r j; omega, by show m j - r j ≤ _; omega⟩
theorem sdN_small {cs : List Pnt} {n k : Nat} {p : Pnt} (hl : cs.length = n) (hok : cornersTo cs n = true) (hk : k < n) (hp : plcW p.x p.y = true) : -1152400000 ≤ sdN cs k p ∧ sdN cs k p ≤ 1152400000 := by
  unfold sdN
  rw [hl]
  have := crs_small (cornersTo_at hok hk) (cornersTo_at hok (nx_lt (n := n) (k := k) (by omega))) hp
  exact ⟨this.1, this.2.1⟩
set_option maxRecDepth 100000 in
set_option maxHeartbeats 3200000 in
theorem meets_any (z : Zone) (p q : Pnt) (w : World) (lo : Nat) (h : Arr Pnt.cs 2 w lo w.heap.size z.r.a z.r.n z.r.xs) (hn : z.r.n ≤ 1048576) (hok : cornersTo z.r.xs z.r.n = true) (hp : plcW p.x p.y = true) (hq : plcW q.x q.y = true) :
    Calls Tryd.prog 85 #[.agg #[.int .i64 z.v.kind, .int .i64 z.v.storeys, .int .i64 z.v.each, .slice z.r.a z.r.n z.r.cap], .agg #[.int .i64 p.x, .int .i64 p.y], .agg #[.int .i64 q.x, .int .i64 q.y]] w fun e w' => e = .returned (.bool (clipB z.r.xs p q)) ∧ Below w.heap.size w w' := by
  have HL : Hid (z.r.xs.length = z.r.n) := h.1
  obtain ⟨W, hW⟩ : ∃ W : World, W = ((((w.alloc (.cells #[.int .i64 z.v.kind, .int .i64 z.v.storeys, .int .i64 z.v.each, .slice z.r.a z.r.n z.r.cap] 127)).alloc (.cells #[.int .i64 p.x, .int .i64 p.y] 41)).alloc (.cells #[.int .i64 q.x, .int .i64 q.y] 41)).alloc (.cells #[.int .i64 0, .int .i64 1] 76)).alloc (.cells #[.int .i64 1, .int .i64 1] 76) := ⟨_, rfl⟩
  have B0 : Below w.heap.size w W := by rw [hW]; exact (((((Below.refl _ _).alloc (Nat.le_refl _) _).alloc (by simp) _).alloc (by simp; omega) _).alloc (by simp; omega) _).alloc (by simp; omega) _
  have Z0 : Blk W w.heap.size 127 #[.int .i64 z.v.kind, .int .i64 z.v.storeys, .int .i64 z.v.each, .slice z.r.a z.r.n z.r.cap] := by rw [hW]; exact ((((Blk.new _ _ _).alloc _).alloc _).alloc _).alloc _
  have C0 : CI (w.heap.size + 1) (w.heap.size + 1 + 1) (w.heap.size + 1 + 1 + 1) p q (0, 1) (1, 1) W := by
    rw [hW]
    exact ⟨(((Blk.new_at rfl (by simp)).alloc _).alloc _).alloc _, ((Blk.new_at rfl (by simp)).alloc _).alloc _, (Blk.new_at rfl (by simp)).alloc _, Blk.new_at rfl (by simp)⟩
  have HC0 := Lib.hid C0
  have HB0 := Lib.hid B0
  have HZ0 := Lib.hid Z0
  have hbd : ∀ j, j < z.r.n → (-1152400000 ≤ sdN z.r.xs j p ∧ sdN z.r.xs j p ≤ 1152400000) ∧ (-1152400000 ≤ sdN z.r.xs j q ∧ sdN z.r.xs j q ≤ 1152400000) := fun j hj => ⟨sdN_small h.1 hok hj hp, sdN_small h.1 hok hj hq⟩
  have HBD := Lib.hid hbd
  have HS := Lib.hid (sidesMeets_any z (w.heap.size + 1) (w.heap.size + 1 + 1) (w.heap.size + 1 + 1 + 1) p q (fun k => (lowTo (fun k => sdN z.r.xs k p) (fun k => sdN z.r.xs k q) k, highTo (fun k => sdN z.r.xs k p) (fun k => sdN z.r.xs k q) k)) (fun j => sdN z.r.xs j p < 0 ∧ sdN z.r.xs j q < 0) W lo ((h.below B0).more (by omega)) hn C0 (fun k X hk hX => by
    have h9 := clip1_any (w.heap.size + 1) (w.heap.size + 1 + 1) (w.heap.size + 1 + 1 + 1) k (pt z.r.xs k) (pt z.r.xs (nxN z.r.n k)) p q _ _ X hX (by omega) (by omega) (cornersTo_at hok hk) (cornersTo_at hok (nx_lt (by omega))) hp hq (fb_low hbd (Nat.le_of_lt hk)) (fb_high hbd (Nat.le_of_lt hk))
    have e1 : crs (pt z.r.xs k) (pt z.r.xs (nxN z.r.n k)) p = sdN z.r.xs k p := by unfold sdN; rw [h.1]
    have e2 : crs (pt z.r.xs k) (pt z.r.xs (nxN z.r.n k)) q = sdN z.r.xs k q := by unfold sdN; rw [h.1]
    rw [e1, e2] at h9
    exact h9))
  have HCL : Hid (clipB z.r.xs p q = (allTo (fun j => !(decide (sdN z.r.xs j p < 0) && decide (sdN z.r.xs j q < 0))) z.r.n && decide ((lowTo (fun k => sdN z.r.xs k p) (fun k => sdN z.r.xs k q) z.r.n).1 * (highTo (fun k => sdN z.r.xs k p) (fun k => sdN z.r.xs k q) z.r.n).2 ≤ (highTo (fun k => sdN z.r.xs k p) (fun k => sdN z.r.xs k q) z.r.n).1 * (lowTo (fun k => sdN z.r.xs k p) (fun k => sdN z.r.xs k q) z.r.n).2))) := by show _ = _; unfold clipB; rw [h.1]
  have HFL := Lib.hid (fb_low hbd (Nat.le_refl _))
  have HFH := Lib.hid (fb_high hbd (Nat.le_refl _))
  have HAT : Hid ((∀ j, j < z.r.n → ¬ (sdN z.r.xs j p < 0 ∧ sdN z.r.xs j q < 0)) → allTo (fun j => !(decide (sdN z.r.xs j p < 0) && decide (sdN z.r.xs j q < 0))) z.r.n = true) := fun h9 => allTo_iff.2 fun j hj => by
    have := h9 j hj
    rw [Bool.not_eq_true', Bool.eq_false_iff]
    intro h8
    rw [Bool.and_eq_true, decide_eq_true_eq, decide_eq_true_eq] at h8
    exact this h8
  have HAF : Hid ((∃ j, j < z.r.n ∧ (sdN z.r.xs j p < 0 ∧ sdN z.r.xs j q < 0)) → allTo (fun j => !(decide (sdN z.r.xs j p < 0) && decide (sdN z.r.xs j q < 0))) z.r.n = false) := fun ⟨j, hj, h1, h2⟩ => allTo_bad hj (by rw [decide_eq_true h1, decide_eq_true h2]; rfl)
  generalize allTo (fun j => !(decide (sdN z.r.xs j p < 0) && decide (sdN z.r.xs j q < 0))) z.r.n = AT at *
  unfold SidesEnd at HS
  dsimp only at HS
  generalize lowTo (fun k => sdN z.r.xs k p) (fun k => sdN z.r.xs k q) z.r.n = L at *
  generalize highTo (fun k => sdN z.r.xs k p) (fun k => sdN z.r.xs k q) z.r.n = H at *
  clear h hok hp hq B0 Z0 C0 hbd
  have z0 : W.cell? ⟨w.heap.size, 0, none⟩ = some (.int .i64 z.v.kind) := (HZ0.out.cell 0).trans rfl
  have z1 : W.cell? ⟨w.heap.size, 1, none⟩ = some (.int .i64 z.v.storeys) := (HZ0.out.cell 1).trans rfl
  have z2 : W.cell? ⟨w.heap.size, 2, none⟩ = some (.int .i64 z.v.each) := (HZ0.out.cell 2).trans rfl
  have z3 : W.cell? ⟨w.heap.size, 3, none⟩ = some (.slice z.r.a z.r.n z.r.cap) := (HZ0.out.cell 3).trans rfl
  go_enter Tryd.func85, Tryd.ntmps85
  go_wp2_with fail
  rw [← hW]
  clear hW z0 z1 z2 z3
  refine HS.out.mono ?_
  rintro e w1 ⟨hw1, ⟨rfl, hnb, hc⟩ | ⟨rfl, hbad⟩⟩
  · have HE : Hid (clipB z.r.xs p q = decide (L.1 * H.2 ≤ H.1 * L.2)) := by show _ = _; rw [HCL.out, HAT.out hnb]; rfl
    have HB1 : Hid (Below w.heap.size w w1) := Below.within HB0.out hw1 (by omega) HB0.out.size
    obtain ⟨l0, l1⟩ := Pnt.blk hc.ll
    obtain ⟨g0, g1⟩ := Pnt.blk hc.hh
    obtain ⟨m1, m2⟩ := HFL.out.mul HFH.out
    obtain ⟨m3, m4⟩ := HFH.out.mul HFL.out
    clear hw1 hnb hc HS
    go_wp2
    go_ret
    exact ⟨by rw [HE.out]; rfl, HB1.out⟩
  · have HE : Hid (clipB z.r.xs p q = false) := by show _ = _; rw [HCL.out, HAF.out hbad]; rfl
    have HB1 : Hid (Below w.heap.size w w1) := Below.within HB0.out hw1 (by omega) HB0.out.size
    clear hw1 hbad HS
    go_wp2
    go_ret
    exact ⟨by rw [HE.out]; rfl, HB1.out⟩
end Go.Proofs.YtdhobglhjdgboaaDoor
