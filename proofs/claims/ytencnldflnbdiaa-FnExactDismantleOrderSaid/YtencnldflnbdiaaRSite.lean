/- Sites (a record of one slice of cranes): the laws' own functions over them: size, copy, equality. -/
import Derived.Test.YtencnldflnbdiaaRCrane
namespace Go.Proofs.Ytencnldflnbdiaa
open Go.RowKit
set_option linter.unusedVariables false

set_option maxHeartbeats 400000 in
theorem szSite_ok (s : Row Crane) (left : Int) (w : World) (h : Cranes w 0 w.heap.size s.a s.n s.xs) (hn : s.n ≤ 9223372036854775807) (hp : ∀ p ∈ s.xs, p.wf) (h0 : 0 ≤ left) (h1 : left ≤ 1048576) (hs : szCraneS s.n s.xs ≤ left) :
    Calls Try.prog 7 #[.agg #[.slice s.a s.n s.cap], .int .i64 left] w fun e w' => e = .returned (.int .i64 (left - szCraneS s.n s.xs)) ∧ Below w.heap.size w w' := by
  have hz : 0 ≤ szCraneS s.n s.xs := by unfold szCraneS; omega
  go_enter Try.func7, Try.ntmps7
  go_wp2_with fail
  refine (szCraneS_ok _ _ _ s.xs _ _ 0 (h.next ((Below.refl _ _).alloc (Nat.le_refl _) _)) hn hp h0 h1 hs).mono ?_
  rintro e w1 ⟨rfl, hb1⟩
  go_wp2
  go_ret
  exact ⟨rfl, ((Below.refl _ _).alloc (Nat.le_refl _) _).trans (hb1.mono (by simp))⟩
set_option maxHeartbeats 400000 in
theorem szSite_no (s : Row Crane) (left : Int) (w : World) (h : Cranes w 0 w.heap.size s.a s.n s.xs) (hn : s.n ≤ 9223372036854775807) (hp : ∀ p ∈ s.xs, p.wf) (h0 : 0 ≤ left) (h1 : left ≤ 1048576) (hs : left < szCraneS s.n s.xs) :
    Calls Try.prog 7 #[.agg #[.slice s.a s.n s.cap], .int .i64 left] w fun e w' => e = .returned (.int .i64 (-1)) ∧ Below w.heap.size w w' := by
  go_enter Try.func7, Try.ntmps7
  go_wp2_with fail
  refine (szCraneS_no _ _ _ s.xs _ _ 0 (h.next ((Below.refl _ _).alloc (Nat.le_refl _) _)) hn hp h0 h1 hs).mono ?_
  rintro e w1 ⟨rfl, hb1⟩
  go_wp2
  go_ret
  exact ⟨rfl, ((Below.refl _ _).alloc (Nat.le_refl _) _).trans (hb1.mono (by simp))⟩
def ToSite (w : World) (s : Row Crane) (e : Ending) (w' : World) : Prop :=
  ∃ g ps', e = .returned (.agg #[.slice (some ⟨g, 0, none⟩) s.n s.n]) ∧ ps'.map Crane.val = s.xs.map Crane.val ∧ CranesOwn w' w.heap.size w'.heap.size (some ⟨g, 0, none⟩) s.n ps' ∧ Below w.heap.size w w'
set_option maxHeartbeats 800000 in
theorem toSite_any (s : Row Crane) (w : World) (lo : Nat) (h : Cranes w lo w.heap.size s.a s.n s.xs) (hn : s.n ≤ 1048576) (hp : ∀ p ∈ s.xs, p.r.n ≤ 1048576) :
    Calls Try.prog 9 #[.agg #[.slice s.a s.n s.cap]] w (ToSite w s) := by
  go_enter Try.func9, Try.ntmps9
  go_wp2_with fail
  obtain ⟨W, hW⟩ : ∃ W : World, W = ((w.alloc (.cells #[.slice s.a s.n s.cap] 24)).alloc (.cells #[.slice none 0 0] 31)).alloc (.cells #[.slice none 0 0] 31) := ⟨_, rfl⟩
  have B0 : Below w.heap.size w W := by rw [hW]; exact (((Below.refl _ _).alloc (Nat.le_refl _) _).alloc (by simp) _).alloc (by simp; omega) _
  have P1 : Blk W (w.heap.size + 1) 31 #[.slice none 0 0] := by rw [hW]; exact (Blk.new_at rfl (by simp)).alloc _
  have P2 : Blk W (w.heap.size + 1 + 1) 31 #[.slice none 0 0] := by rw [hW]; exact Blk.new_at rfl (by simp)
  rw [← hW]
  clear hW
  refine (toCraneS_any _ _ _ s.xs _ lo (h.next B0) hn hp).mono ?_
  rintro e w1 ⟨g, ps', rfl, hval, ho, hb1⟩
  have B1 := B0.trans (hb1.mono B0.size)
  have Q1 := P1.bel hb1
  have Q2 := P2.bel hb1
  have hg2 := P2.lt
  have hq2 := Q2.lt
  have c1 := (Q1.cell 0).trans rfl
  have c2 := (Q2.cell 0).trans rfl
  have f1 := Q1.frozen 0
  have f2 := Q2.frozen 0
  clear P1 P2
  go_wp2
  have hfin := (((Within.refl (w.heap.size + 1) (w.heap.size + 3) w1).setCell (p := ⟨w.heap.size + 1 + 1, 0, none⟩) (by dsimp only; omega) (by dsimp only; omega) (.slice (some ⟨g, 0, none⟩) s.n s.n)).setCell (p := ⟨w.heap.size + 1, 0, none⟩) (by dsimp only; omega) (by dsimp only; omega) (.slice (some ⟨g, 0, none⟩) s.n s.n))
  have hbf := ((B1.setCell (p := ⟨w.heap.size + 1 + 1, 0, none⟩) (by dsimp only; omega) (.slice (some ⟨g, 0, none⟩) s.n s.n)).setCell (p := ⟨w.heap.size + 1, 0, none⟩) (by dsimp only; omega) (.slice (some ⟨g, 0, none⟩) s.n s.n))
  have RF : Blk _ (w.heap.size + 1) 31 #[.slice (some ⟨g, 0, none⟩) s.n s.n] := (Q1.far (p := ⟨w.heap.size + 1 + 1, 0, none⟩) (by dsimp only; omega) (.slice (some ⟨g, 0, none⟩) s.n s.n)).set_ 0 (.slice (some ⟨g, 0, none⟩) s.n s.n)
  have hsz := hfin.size
  have RC := (RF.cell 0).trans rfl
  refine bodyPost_ret (v := .agg #[.slice (some ⟨g, 0, none⟩) s.n s.n]) (by simp [results, Try.results9, go_sem, RC]) rfl ⟨g, ps', rfl, hval, ?_, hbf⟩
  obtain ⟨mid, fm, h3, h4, h5, h6⟩ := ho.within hfin (.inr (by omega))
  exact ⟨mid, fm, by have := B0.size; omega, by omega, h5.wide B0.size (Nat.le_refl _), h6.more hfin.size⟩
set_option maxHeartbeats 400000 in
theorem eqSite_same (A A2 : Option Addr) (n c c2 : Nat) (ps ps2 : List Crane) (w : World) (lo lo2 : Nat) (hv : ps.map Crane.val = ps2.map Crane.val) (h : Cranes w lo w.heap.size A n ps) (h2 : Cranes w lo2 w.heap.size A2 n ps2) (hn : n ≤ 9223372036854775807) (hp : ∀ p ∈ ps, p.r.n ≤ 9223372036854775807) :
    Calls Try.prog 12 #[.agg #[.slice A n c], .agg #[.slice A2 n c2]] w fun e w' => e = .returned (.bool true) ∧ Below w.heap.size w w' := by
  have hb : ∀ o o2, Below w.heap.size w ((w.alloc o).alloc o2) := fun o o2 => ((Below.refl _ _).alloc (Nat.le_refl _) _).alloc (by simp) _
  have HB := Lib.hid hb
  clear hb
  go_enter Try.func12, Try.ntmps12
  go_wp2_with fail
  refine (eqCraneS_same _ _ _ _ _ ps ps2 _ lo lo2 hv (h.next (HB.out _ _)) (h2.next (HB.out _ _)) hn hp).mono ?_
  rintro e w1 ⟨rfl, hb1⟩
  go_wp2
  go_ret
  exact ⟨rfl, (HB.out _ _).trans (hb1.mono (HB.out _ _).size)⟩
end Go.Proofs.Ytencnldflnbdiaa
