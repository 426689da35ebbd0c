/- meets of the program: its closure. -/
import Derived.Test.YtencnldflnbdiaaZone1
import Derived.Test.YtencnldflnbdiaaZone2
namespace Go.Proofs.Ytencnldflnbdiaa
open Go.RowKit Go.Sort
set_option linter.unusedVariables false

/-- bounds of the fractions that the clipping handles -/
structure FB (a : Int × Int) : Prop where
  n0 : 0 ≤ a.1
  n1 : a.1 ≤ 800000000
  d0 : 0 < a.2
  d1 : a.2 ≤ 1600000000
theorem FB.mul {a b : Int × Int} (ha : FB a) (hb : FB b) : 0 ≤ a.1 * b.2 ∧ a.1 * b.2 ≤ 1280000000000000000 := by
  have := ha.n0; have := ha.n1; have := hb.d0; have := hb.d1
  exact ⟨Int.mul_nonneg (by omega) (by omega), Int.mul_le_mul (c := 800000000) (d := 1600000000) (by omega) (by omega) (by omega) (by omega)⟩
theorem FB.later {a b : Int × Int} (ha : FB a) (hb : FB b) : FB (laterF a b) := by unfold laterF; split <;> assumption
theorem FB.earlier {a b : Int × Int} (ha : FB a) (hb : FB b) : FB (earlierF a b) := by unfold earlierF; split <;> assumption
set_option maxHeartbeats 800000 in
theorem later_any (a b : Int × Int) (w : World) (ha : FB a) (hb : FB b) :
    Calls Try.prog 88 #[.agg #[.int .i64 a.1, .int .i64 a.2], .agg #[.int .i64 b.1, .int .i64 b.2]] w fun e w' => e = .returned (.agg #[.int .i64 (laterF a b).1, .int .i64 (laterF a b).2]) ∧ Below w.heap.size w w' := by
  obtain ⟨m1, m2⟩ := ha.mul hb
  obtain ⟨m3, m4⟩ := hb.mul ha
  by_cases h : a.1 * b.2 < b.1 * a.2
  · have HE : Hid (laterF a b = b) := by show _ = _; unfold laterF; rw [if_pos h]
    rw [HE.out]
    obtain ⟨a1, a2⟩ := a
    obtain ⟨b1, b2⟩ := b
    dsimp only at *
    clear HE ha hb
    go_enter Try.func88, Try.ntmps88
    go_wp2
    exact bodyPost_ret (v := .agg #[.int .i64 b1, .int .i64 b2]) (by simp [results, Try.results88, go_sem]) rfl ⟨rfl, (((Below.refl _ _).alloc (Nat.le_refl _) _).alloc (by simp) _).alloc (by simp; omega) _⟩
  · have HE : Hid (laterF a b = a) := by show _ = _; unfold laterF; rw [if_neg h]
    rw [HE.out]
    obtain ⟨a1, a2⟩ := a
    obtain ⟨b1, b2⟩ := b
    dsimp only at *
    clear HE ha hb
    go_enter Try.func88, Try.ntmps88
    go_wp2
    exact bodyPost_ret (v := .agg #[.int .i64 a1, .int .i64 a2]) (by simp [results, Try.results88, go_sem]) rfl ⟨rfl, (((Below.refl _ _).alloc (Nat.le_refl _) _).alloc (by simp) _).alloc (by simp; omega) _⟩
set_option maxHeartbeats 800000 in
theorem earlier_any (a b : Int × Int) (w : World) (ha : FB a) (hb : FB b) :
    Calls Try.prog 89 #[.agg #[.int .i64 a.1, .int .i64 a.2], .agg #[.int .i64 b.1, .int .i64 b.2]] w fun e w' => e = .returned (.agg #[.int .i64 (earlierF a b).1, .int .i64 (earlierF a b).2]) ∧ Below w.heap.size w w' := by
  obtain ⟨m1, m2⟩ := ha.mul hb
  obtain ⟨m3, m4⟩ := hb.mul ha
  by_cases h : b.1 * a.2 < a.1 * b.2
  · have HE : Hid (earlierF a b = b) := by show _ = _; unfold earlierF; rw [if_pos h]
    rw [HE.out]
    obtain ⟨a1, a2⟩ := a
    obtain ⟨b1, b2⟩ := b
    dsimp only at *
    clear HE ha hb
    go_enter Try.func89, Try.ntmps89
    go_wp2
    exact bodyPost_ret (v := .agg #[.int .i64 b1, .int .i64 b2]) (by simp [results, Try.results89, go_sem]) rfl ⟨rfl, (((Below.refl _ _).alloc (Nat.le_refl _) _).alloc (by simp) _).alloc (by simp; omega) _⟩
  · have HE : Hid (earlierF a b = a) := by show _ = _; unfold earlierF; rw [if_neg h]
    rw [HE.out]
    obtain ⟨a1, a2⟩ := a
    obtain ⟨b1, b2⟩ := b
    dsimp only at *
    clear HE ha hb
    go_enter Try.func89, Try.ntmps89
    go_wp2
    exact bodyPost_ret (v := .agg #[.int .i64 a1, .int .i64 a2]) (by simp [results, Try.results89, go_sem]) rfl ⟨rfl, (((Below.refl _ _).alloc (Nat.le_refl _) _).alloc (by simp) _).alloc (by simp; omega) _⟩

/-- the points and what is left of the line, in boxes -/
structure CI (bp bq bl : Nat) (p q : Pnt) (l h : Int × Int) (X : World) : Prop where
  pp : Blk X bp 50 #[.int .i64 p.x, .int .i64 p.y]
  qq : Blk X bq 50 #[.int .i64 q.x, .int .i64 q.y]
  ll : Blk X bl 132 #[.int .i64 l.1, .int .i64 l.2]
  hh : Blk X (bl + 1) 132 #[.int .i64 h.1, .int .i64 h.2]
theorem CI.bel {bp bq bl : Nat} {p q : Pnt} {l h : Int × Int} {X Y : World} (c : CI bp bq bl p q l h X) (hb : Below X.heap.size X Y) : CI bp bq bl p q l h Y := ⟨c.pp.bel hb, c.qq.bel hb, c.ll.bel hb, c.hh.bel hb⟩
theorem Blk.pair {w : World} {g : Nat} {t : TypeId} {x y : Value} (h : Blk w g t #[x, y]) (u v : Value) : Blk ((w.setCell ⟨g, 0, none⟩ u).setCell ⟨g, 1, none⟩ v) g t #[u, v] := by
  have h2 := (h.set_ 0 u).set_ 1 v
  have e : ((#[x, y] : Array Value).setIfInBounds 0 u).setIfInBounds 1 v = #[u, v] := rfl
  rwa [e] at h2
theorem CI.low {bp bq bl : Nat} {p q : Pnt} {l h : Int × Int} {X : World} (c : CI bp bq bl p q l h X) (h1 : bp < bl) (h2 : bq < bl) (l2 : Int × Int) : CI bp bq bl p q l2 h ((X.setCell ⟨bl, 0, none⟩ (.int .i64 l2.1)).setCell ⟨bl, 1, none⟩ (.int .i64 l2.2)) :=
  ⟨(c.pp.far (by show bp ≠ bl; omega) _).far (by show bp ≠ bl; omega) _, (c.qq.far (by show bq ≠ bl; omega) _).far (by show bq ≠ bl; omega) _, Blk.pair c.ll _ _, (c.hh.far (by show bl + 1 ≠ bl; omega) _).far (by show bl + 1 ≠ bl; omega) _⟩
theorem CI.high {bp bq bl : Nat} {p q : Pnt} {l h : Int × Int} {X : World} (c : CI bp bq bl p q l h X) (h1 : bp < bl) (h2 : bq < bl) (l2 : Int × Int) : CI bp bq bl p q l l2 ((X.setCell ⟨bl + 1, 0, none⟩ (.int .i64 l2.1)).setCell ⟨bl + 1, 1, none⟩ (.int .i64 l2.2)) :=
  ⟨(c.pp.far (by show bp ≠ bl + 1; omega) _).far (by show bp ≠ bl + 1; omega) _, (c.qq.far (by show bq ≠ bl + 1; omega) _).far (by show bq ≠ bl + 1; omega) _, (c.ll.far (by show bl ≠ bl + 1; omega) _).far (by show bl ≠ bl + 1; omega) _, Blk.pair c.hh _ _⟩
def clipLow (l : Int × Int) (m r : Int) : Int × Int := if m < 0 ∧ ¬ r < 0 then laterF l (-m, r - m) else l
def clipHigh (h : Int × Int) (m r : Int) : Int × Int := if r < 0 ∧ ¬ m < 0 then earlierF h (m, m - r) else h
def TwoAt (p q : Pnt) (m r : Int) (x : Pnt) (v : Int) : Prop := (x = p ∧ v = m) ∨ (x = q ∧ v = r)
def ClipEnd (bp bq bl : Nat) (p q : Pnt) (l h : Int × Int) (m r : Int) (w : World) (e : Ending) (w' : World) : Prop :=
  Within bl (bl + 2) w w' ∧ ((e = .returned (.bool true) ∧ ¬ (m < 0 ∧ r < 0) ∧ CI bp bq bl p q (clipLow l m r) (clipHigh h m r) w') ∨ (e = .returned (.bool false) ∧ m < 0 ∧ r < 0))
set_option maxRecDepth 100000 in
set_option maxHeartbeats 3200000 in
theorem clip1_any (bp bq bl k : Nat) (a b p q : Pnt) (l h : Int × Int) (w : World) (c : CI bp bq bl p q l h w) (h1 : bp < bl) (h2 : bq < bl) (ha : plcB a.x a.y = true) (hb : plcB b.x b.y = true) (hp : plcB p.x p.y = true) (hq : plcB q.x q.y = true) (hl : FB l) (hh : FB h) :
    Calls Try.prog 86 #[.int .i64 (k : Int), .agg #[.int .i64 a.x, .int .i64 a.y], .agg #[.int .i64 b.x, .int .i64 b.y], .pointer (some ⟨bp, 0, none⟩), .pointer (some ⟨bq, 0, none⟩), .pointer (some ⟨bl, 0, none⟩), .pointer (some ⟨bl + 1, 0, none⟩)] w (ClipEnd bp bq bl p q l h (crs a b p) (crs a b q) w) := by
  obtain ⟨W, hW⟩ : ∃ W : World, W = (w.alloc (.cells #[.int .i64 a.x, .int .i64 a.y] 50)).alloc (.cells #[.int .i64 b.x, .int .i64 b.y] 50) := ⟨_, rfl⟩
  have B0 : Below w.heap.size w W := by rw [hW]; exact ((Below.refl _ _).alloc (Nat.le_refl _) _).alloc (by simp) _
  have P0 : Blk W w.heap.size 50 #[.int .i64 a.x, .int .i64 a.y] := by rw [hW]; exact (Blk.new _ _ _).alloc _
  have P1 : Blk W (w.heap.size + 1) 50 #[.int .i64 b.x, .int .i64 b.y] := by rw [hW]; exact Blk.new_at rfl (by simp)
  have S1 := Lib.hid (fun W => side_any a b p W ha hb hp)
  have S2 := Lib.hid (fun W => side_any a b q W ha hb hq)
  have SS : Hid (∀ (W : World) (x : Pnt) (v : Int), TwoAt p q (crs a b p) (crs a b q) x v → Calls Try.prog 87 #[.agg #[.int .i64 a.x, .int .i64 a.y], .agg #[.int .i64 b.x, .int .i64 b.y], .agg #[.int .i64 x.x, .int .i64 x.y]] W fun e w' => e = .returned (.int .i64 v) ∧ Below W.heap.size W w') := fun W x v hx => by
    rcases hx with ⟨rfl, rfl⟩ | ⟨rfl, rfl⟩
    · exact S1.out W
    · exact S2.out W
  have t1 : TwoAt p q (crs a b p) (crs a b q) p (crs a b p) := .inl ⟨rfl, rfl⟩
  have t2 : TwoAt p q (crs a b p) (crs a b q) q (crs a b q) := .inr ⟨rfl, rfl⟩
  clear S1 S2
  have b1 := crs_small ha hb hp
  have b2 := crs_small ha hb hq
  have M1 : Hid (-800000000 ≤ crs a b p ∧ crs a b p ≤ 800000000) := ⟨b1.1, b1.2.1⟩
  have M2 : Hid (-800000000 ≤ crs a b q ∧ crs a b q ≤ 800000000) := ⟨b2.1, b2.2.1⟩
  generalize crs a b p = m at *
  generalize crs a b q = r at *
  have HC := Lib.hid (c.bel B0)
  have HB0 := Lib.hid B0
  obtain ⟨p0, p1⟩ := Pnt.blk HC.out.pp
  obtain ⟨q0, q1⟩ := Pnt.blk HC.out.qq
  obtain ⟨a0, a1⟩ := Pnt.blk P0
  obtain ⟨c0, c1⟩ := Pnt.blk P1
  have p0' := cell_regrown p0
  have p1' := cell_regrown p1
  have q0' := cell_regrown q0
  have q1' := cell_regrown q1
  have a0' := cell_regrown a0
  have a1' := cell_regrown a1
  have c0' := cell_regrown c0
  have c1' := cell_regrown c1
  have HL := Lib.hid hl
  have HH := Lib.hid hh
  clear c B0 P0 P1 b1 b2 ha hb hp hq p0 p1 q0 q1 a0 a1 c0 c1 hl hh
  go_enter Try.func86, Try.ntmps86
  go_wp2
  rw [← hW]
  clear hW
  refine wp_region_quiet_below (by kernel_rfl) (by kernel_rfl) ?_
  repeat (go_big_quiet_step (first | (go_at_call 87; exact Calls.regrown_of (SS.out _ _ _ (by assumption)))))
  refine wpQuiet_nil ?_
  intro _ hw9
  obtain ⟨⟨dq, osq⟩, hw9⟩ := hw9
  subst hw9
  have hb5 := below_regrown W dq osq
  dsimp only at hb5 ⊢
  generalize grow (redrawn W dq) osq = w5 at hb5 ⊢
  have HC5 := Lib.hid (HC.out.bel hb5)
  have HB5 := Lib.hid (HB0.out.trans (hb5.mono HB0.out.size))
  obtain ⟨hm1, hm2⟩ := M1.out
  obtain ⟨hr1, hr2⟩ := M2.out
  clear hb5 p0' p1' q0' q1' a0' a1' c0' c1' SS t1 t2 M1 M2
  by_cases x1 : m < 0
  · by_cases x2 : r < 0
    · go_wp2
      go_ret
      exact ⟨Within.of_below _ _ HB5.out, .inr ⟨rfl, x1, x2⟩⟩
    · have HF := Lib.hid (show FB (-m, r - m) from ⟨by show 0 ≤ -m; omega, by show -m ≤ _; omega, by show 0 < r - m; omega, by show r - m ≤ _; omega⟩)
      obtain ⟨l0, l1⟩ := Pnt.blk HC5.out.ll
      have HLT := Lib.hid (fun W => later_any l (-m, r - m) W HL.out HF.out)
      have HN : Hid (clipLow l m r = laterF l (-m, r - m) ∧ clipHigh h m r = h) := ⟨by unfold clipLow; rw [if_pos ⟨x1, x2⟩], by unfold clipHigh; rw [if_neg (by omega)]⟩
      go_wp2_with fail
      refine (HLT.out _).mono ?_
      rintro e w6 ⟨rfl, hb6⟩
      have HC6 := Lib.hid (HC5.out.bel hb6)
      have HB6 := Lib.hid (HB5.out.trans (hb6.mono HB5.out.size))
      have f0 := HC6.out.ll.frozen 0
      have f1 := HC6.out.ll.frozen 1
      clear l0 l1 hb6
      obtain ⟨l0, l1⟩ := Pnt.blk HC6.out.ll
      have hlt := HC6.out.ll.lt
      generalize laterF l (-m, r - m) = l9 at *
      go_wp2
      go_ret
      refine ⟨((Within.of_below _ _ HB6.out).setCell (p := ⟨bl, 0, none⟩) (Nat.le_refl _) (by show bl < bl + 2; omega) _).setCell (p := ⟨bl, 1, none⟩) (Nat.le_refl _) (by show bl < bl + 2; omega) _, .inl ⟨rfl, by omega, ?_⟩⟩
      rw [HN.out.1, HN.out.2]
      exact HC6.out.low h1 h2 _
  · by_cases x2 : r < 0
    · have HF := Lib.hid (show FB (m, m - r) from ⟨by show 0 ≤ m; omega, by show m ≤ _; omega, by show 0 < m - r; omega, by show m - r ≤ _; omega⟩)
      obtain ⟨l0, l1⟩ := Pnt.blk HC5.out.hh
      have HLT := Lib.hid (fun W => earlier_any h (m, m - r) W HH.out HF.out)
      have HN : Hid (clipLow l m r = l ∧ clipHigh h m r = earlierF h (m, m - r)) := ⟨by unfold clipLow; rw [if_neg (by omega)], by unfold clipHigh; rw [if_pos ⟨x2, x1⟩]⟩
      go_wp2_with fail
      refine (HLT.out _).mono ?_
      rintro e w6 ⟨rfl, hb6⟩
      have HC6 := Lib.hid (HC5.out.bel hb6)
      have HB6 := Lib.hid (HB5.out.trans (hb6.mono HB5.out.size))
      have f0 := HC6.out.hh.frozen 0
      have f1 := HC6.out.hh.frozen 1
      clear l0 l1 hb6
      obtain ⟨l0, l1⟩ := Pnt.blk HC6.out.hh
      have hlt := HC6.out.hh.lt
      generalize earlierF h (m, m - r) = l9 at *
      go_wp2
      go_ret
      refine ⟨((Within.of_below _ _ HB6.out).setCell (p := ⟨bl + 1, 0, none⟩) (Nat.le_succ _) (by show bl + 1 < bl + 2; omega) _).setCell (p := ⟨bl + 1, 1, none⟩) (Nat.le_succ _) (by show bl + 1 < bl + 2; omega) _, .inl ⟨rfl, by omega, ?_⟩⟩
      rw [HN.out.1, HN.out.2]
      exact HC6.out.high h1 h2 _
    · have HN : Hid (clipLow l m r = l ∧ clipHigh h m r = h) := ⟨by unfold clipLow; rw [if_neg (by omega)], by unfold clipHigh; rw [if_neg (by omega)]⟩
      go_wp2
      go_ret
      refine ⟨Within.of_below _ _ HB5.out, .inl ⟨rfl, by omega, ?_⟩⟩
      rw [HN.out.1, HN.out.2]
      exact HC5.out
end Go.Proofs.Ytencnldflnbdiaa
