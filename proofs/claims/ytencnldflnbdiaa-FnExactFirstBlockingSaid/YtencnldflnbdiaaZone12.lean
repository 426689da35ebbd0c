/- meets and LineMeetsZone of the program. -/
import Derived.Test.YtencnldflnbdiaaZone11
import Derived.Test.YtencnldflnbdiaaZone10
import Derived.StillTailTactics
namespace Go.Proofs.Ytencnldflnbdiaa
open Go.RowKit Go.Sort
set_option linter.unusedVariables false

theorem CI.within {bp bq bl : Nat} {p q : Pnt} {l h : Int × Int} {X Y : World} (c : CI bp bq bl p q l h X) (hb : Below X.heap.size X Y) : CI bp bq bl p q l h Y := c.bel hb
/-- what sides answers at meets' closure, the states of the clipping being St -/
def SidesEnd (bp bq bl n : Nat) (p q : Pnt) (St : Nat → (Int × Int) × (Int × Int)) (Bad : Nat → Prop) (w : World) (e : Ending) (w' : World) : Prop :=
  Within bl (bl + 2) w w' ∧ ((e = .returned (.bool true) ∧ (∀ j, j < n → ¬ Bad j) ∧ CI bp bq bl p q (St n).1 (St n).2 w') ∨ (e = .returned (.bool false) ∧ ∃ j, j < n ∧ Bad j))
set_option maxRecDepth 100000 in
set_option maxHeartbeats 3200000 in
theorem sidesMeets_any (z : Zone) (bp bq bl : Nat) (p q : Pnt) (St : Nat → (Int × Int) × (Int × Int)) (Bad : Nat → Prop) (w : World) (lo : Nat) (h : Arr Pnt.cs 2 w lo bl z.r.a z.r.n z.r.xs) (hn : z.r.n ≤ 1048576) (hc : CI bp bq bl p q (St 0).1 (St 0).2 w)
    (hf : ∀ (k : Nat) (W : World), k < z.r.n → CI bp bq bl p q (St k).1 (St k).2 W → Calls Try.prog 86 #[.int .i64 (k : Int), .agg #[.int .i64 (pt z.r.xs k).x, .int .i64 (pt z.r.xs k).y], .agg #[.int .i64 (pt z.r.xs (nxN z.r.n k)).x, .int .i64 (pt z.r.xs (nxN z.r.n k)).y], .pointer (some ⟨bp, 0, none⟩), .pointer (some ⟨bq, 0, none⟩), .pointer (some ⟨bl, 0, none⟩), .pointer (some ⟨bl + 1, 0, none⟩)] W fun e W' =>
      Within bl (bl + 2) W W' ∧ ((e = .returned (.bool true) ∧ ¬ Bad k ∧ CI bp bq bl p q (St (k + 1)).1 (St (k + 1)).2 W') ∨ (e = .returned (.bool false) ∧ Bad k))) :
    Calls Try.prog 85 #[.agg #[.int .i64 z.v.kind, .int .i64 z.v.storeys, .int .i64 z.v.each, .slice z.r.a z.r.n z.r.cap], .func (.func 86) #[] #[.pointer (some ⟨bp, 0, none⟩), .pointer (some ⟨bq, 0, none⟩), .pointer (some ⟨bl, 0, none⟩), .pointer (some ⟨bl + 1, 0, none⟩)]] w (SidesEnd bp bq bl z.r.n p q St Bad w) := by
  obtain ⟨⟨kind, storeys, each⟩, ⟨A, n, c, cs⟩⟩ := z
  dsimp only at *
  have HF := Lib.hid hf
  obtain ⟨W, hW⟩ : ∃ W : World, W = w.alloc (.cells #[.int .i64 kind, .int .i64 storeys, .int .i64 each, .slice A n c] 48) := ⟨_, rfl⟩
  have hbl := hc.hh.lt
  have B0 : Within bl (bl + 2) w W := by rw [hW]; exact (Within.refl _ _ _).alloc _
  have B1 : Below w.heap.size w W := by rw [hW]; exact (Below.refl _ _).alloc (Nat.le_refl _) _
  have P0 : Blk W w.heap.size 48 #[.int .i64 kind, .int .i64 storeys, .int .i64 each, .slice A n c] := by rw [hW]; exact Blk.new _ _ _
  have hsW := P0.lt
  have HA := Lib.hid (h.below (B1.mono (by omega)))
  have HP0 := Lib.hid P0
  have HB0 := Lib.hid B0
  have HC0 := Lib.hid (hc.bel B1)
  clear h hf B0 B1 P0 hc
  go_enter Try.func85, Try.ntmps85
  go_wp2
  rw [← hW]
  clear hW
  go_loopw [10, 5, 6] (fun v10 v5 v6 wr => ∃ k : Nat, k ≤ n ∧ v10 = .int .i64 k ∧ (∀ j, j < k → ¬ Bad j) ∧ CI bp bq bl p q (St k).1 (St k).2 wr ∧ Within bl (bl + 2) W wr) (fun v10 _ _ _ => n - (intOf v10).toNat)
  case atStart => exact ⟨0, Nat.zero_le _, rfl, fun j hj => absurd hj (by omega), HC0.out, Within.refl _ _ _⟩
  case round =>
    obtain ⟨k, hk, rfl, ht, hci, hb⟩ := hrel
    have HT := Lib.hid ht
    have HCI := Lib.hid hci
    have hbs := hb.size
    have HBB := Lib.hid (HB0.out.trans hb)
    have HBW := Lib.hid hb
    have HA2 := Lib.hid (HA.out.within hb (by omega) (.inl (Nat.le_refl _)))
    have HPZ : Hid (Blk wr w.heap.size 48 #[.int .i64 kind, .int .i64 storeys, .int .i64 each, .slice A n c]) := (hb.block _ hsW (by omega)).trans HP0.out
    clear ht hci hb
    by_cases hlt : k < n
    · have hk0 : (0 : Int) ≤ (k : Int) := by omega
      have hk1 : (k : Int) < (n : Int) := by omega
      obtain ⟨b', off', u, eA, hp, _, hbl', d0, d1⟩ := Pnt.at HA2.out hlt
      obtain ⟨b'', off'', r, eA', hr', _, hbl'', f0, f1⟩ := Pnt.at HA2.out (nx_lt (n := n) (k := k) (by omega))
      rw [eA] at eA'
      cases eA'
      have HPK : Hid (pt cs k = u) := pt_at hp
      have HPN : Hid (pt cs (nxN n k) = r) := pt_at hr'
      obtain ⟨W5, hW5⟩ : ∃ W5 : World, W5 = wr.alloc (.cells #[.int .i64 u.x, .int .i64 u.y] 50) := ⟨_, rfl⟩
      have hbA : Below wr.heap.size wr W5 := by rw [hW5]; exact (Below.refl _ _).alloc (Nat.le_refl _) _
      have PQ : Blk W5 wr.heap.size 50 #[.int .i64 u.x, .int .i64 u.y] := by rw [hW5]; exact Blk.new _ _ _
      have HFK : Hid (∀ X, CI bp bq bl p q (St k).1 (St k).2 X → Calls Try.prog 86 #[.int .i64 (k : Int), .agg #[.int .i64 u.x, .int .i64 u.y], .agg #[.int .i64 r.x, .int .i64 r.y], .pointer (some ⟨bp, 0, none⟩), .pointer (some ⟨bq, 0, none⟩), .pointer (some ⟨bl, 0, none⟩), .pointer (some ⟨bl + 1, 0, none⟩)] X fun e W' =>
          Within bl (bl + 2) X W' ∧ ((e = .returned (.bool true) ∧ ¬ Bad k ∧ CI bp bq bl p q (St (k + 1)).1 (St (k + 1)).2 W') ∨ (e = .returned (.bool false) ∧ Bad k))) := fun X hX => by
        have h9 := HF.out k X hlt hX
        rwa [HPK.out, HPN.out] at h9
      have z3 : W5.cell? ⟨w.heap.size, 3, none⟩ = some (.slice A n c) := ((HPZ.out.bel hbA).cell 3).trans rfl
      obtain ⟨e0, e1⟩ := Pnt.blk PQ
      have r0 := (hbA.cell (p := ⟨b', off' + nxN n k * 2, none⟩) (show b' < wr.heap.size by omega)).trans f0
      have r1 := (hbA.cell (p := ⟨b', off' + nxN n k * 2 + 1, none⟩) (show b' < wr.heap.size by omega)).trans f1
      have HBA := Lib.hid hbA
      have hrem := nx_rem hlt
      have hjn := nx_lt (n := n) (k := k) (by omega)
      generalize nxN n k = j at *
      have hj0 : (0 : Int) ≤ (j : Int) := by omega
      have hj1 : (j : Int) < (n : Int) := by omega
      have hn0 : ¬ (n : Int) = 0 := by omega
      subst eA
      clear hp hr' hbA PQ f0 f1
      go_wp2
      rw [← hW5]
      clear hW5
      have hwr : IntKind.i64.wrap ((k : Int) + 1) = (k : Int) + 1 := IntWalk.i64_in _ ⟨by omega, by omega⟩
      have hnn : ¬ n = 0 := by omega
      have hwj : IntKind.i64.wrap (j : Int) = (j : Int) := IntWalk.i64_in _ ⟨by omega, by omega⟩
      refine wp_region_still_tail 13 (by kernel_rfl) (by kernel_rfl) ?_
      simp only [List.take_succ_cons, List.take_zero, List.drop_succ_cons, List.drop_zero]
      repeat still_step
      refine wpStill_nil ?_
      obtain ⟨W6, hW6⟩ : ∃ W6 : World, W6 = W5.drew := ⟨_, rfl⟩
      have hW7 : ({ W5 with drawn := W5.drawn + 1 } : World) = W6 := hW6.symm
      have HB6 : Hid (Below wr.heap.size wr W6) := by rw [hW6]; exact HBA.out.drew
      rw [hW7]
      clear hW6 hW7 z3 e0 e1 r0 r1
      go_wp2_with fail
      refine (HFK.out W6 (HCI.out.bel HB6.out)).mono ?_
      rintro e w8 ⟨hw8, ⟨rfl, hnb, hc8⟩ | ⟨rfl, hbad⟩⟩
      · have HB8 := Lib.hid ((Within.of_below bl (bl + 2) HB6.out).trans hw8)
        have HNB := Lib.hid hnb
        have HC8 := Lib.hid hc8
        clear hw8 hnb hc8
        go_wp2
        go_roundw
        case rel =>
          refine ⟨k + 1, by omega, by go_num, fun i hi => ?_, HC8.out, HBW.out.trans HB8.out⟩
          rcases Nat.lt_or_ge i k with h9 | h9
          · exact HT.out i h9
          · obtain rfl : i = k := by omega
            exact HNB.out
        case measure => simp [intOf]; omega
      · have HB8 := Lib.hid ((Within.of_below bl (bl + 2) HB6.out).trans hw8)
        have HBD := Lib.hid hbad
        clear hw8 hbad
        go_wp2
        go_ret
        exact ⟨HBB.out.trans HB8.out, .inr ⟨rfl, k, hlt, HBD.out⟩⟩
    · obtain rfl : k = n := by omega
      go_wp2
      go_ret
      exact ⟨HBB.out, .inl ⟨rfl, HT.out, HCI.out⟩⟩
end Go.Proofs.Ytencnldflnbdiaa
