/- slices.Backward over climbs: the iterator's contract. -/
import Derived.Test.YtdoinbnnpompiaaJoinClimbs
import Derived.RangeFuncBox
import Derived.RangeFuncNested
import Derived.RangeFuncLeaves
import Derived.Shelf.Abstract
import Derived.OwnWalkIn
import Derived.TacticsInMore
import Derived.LoopNIn
import Derived.LoopIn
namespace Go.Proofs.Ytdoinbnnpompiaa
open Go.RowKit Go.Shelf
set_option linter.unusedVariables false
attribute [local go_sem] Oper.semAt_some

/-- what has come when k rounds are over: the places from the last one on, each with its climb -/
def backRev (xs : List Climb) : Nat → List (Nat × Climb)
  | 0 => []
  | k + 1 => match xs[xs.length - 1 - k]? with | some c => backRev xs k ++ [(xs.length - 1 - k, c)] | none => backRev xs k
theorem backRev_step {xs : List Climb} {k n : Nat} {c : Climb} (hn : xs.length = n) (h : xs[n - 1 - k]? = some c) : backRev xs (k + 1) = backRev xs k ++ [(n - 1 - k, c)] := by
  subst hn; simp only [backRev, h]
theorem backRev_len (xs : List Climb) (k : Nat) (hk : k ≤ xs.length) : (backRev xs k).length = k := by
  induction k with
  | zero => rfl
  | succ k ih =>
    have h : xs[xs.length - 1 - k]? = some (xs[xs.length - 1 - k]'(by omega)) := List.getElem?_eq_getElem _
    rw [backRev_step rfl h]; simp [ih (by omega)]
theorem backRev_neg (xs : List Climb) (k : Nat) (hk : k ≤ xs.length) : (backRev xs k).map (fun p => negC p.2) = backTo xs k := by
  induction k with
  | zero => rfl
  | succ k ih =>
    have h : xs[xs.length - 1 - k]? = some (xs[xs.length - 1 - k]'(by omega)) := List.getElem?_eq_getElem _
    rw [backRev_step rfl h, backTo_step rfl h, List.map_append, ih (by omega)]; rfl

/-- what lay below n₀ is as it was, and block Bs -/
def BK (n₀ Bs : Nat) (W W' : World) : Prop := Below n₀ W W' ∧ W'.heap[Bs]? = W.heap[Bs]?
theorem BK.refl (n₀ Bs : Nat) (W : World) : BK n₀ Bs W W := ⟨Below.refl _ _, rfl⟩
theorem BK.trans {n₀ Bs : Nat} {A B C : World} (h : BK n₀ Bs A B) (k : BK n₀ Bs B C) : BK n₀ Bs A C := ⟨h.1.trans k.1, k.2.trans h.2⟩

set_option maxRecDepth 100000 in
set_option maxHeartbeats 2000000 in
theorem back1_in (F : Fence) (n : Nat) (h7 : F.fn 209) (hro : F.round = none) (hn : 1 ≤ n) (l Bs n₀ b off len cap : Nat) (A : Option Addr) (zs : List Climb) (hl : zs.length = len) (hl60 : len ≤ 60) (hb : 0 < len → A = some ⟨b, off, none⟩ ∧ b < n₀) (J Jx : List (Nat × Climb) → World → Prop)
    (hY : ∀ pre x W, J pre W → pre.length < len → YieldAt F (n - 1) Try.prog l #[.int .i64 (x.1 : Int), .agg #[.int .i64 x.2.crane, .int .i64 x.2.sections]] W fun e W' =>
      (e = .returned (.bool true) ∧ J (pre ++ [x]) W' ∧ BK n₀ Bs W W') ∨ (e = .returned (.bool false) ∧ Jx (pre ++ [x]) W'))
    (W : World) (hBs : W.cell? ⟨Bs, 0, none⟩ = some (.slice A len cap))
    (hc0 : ∀ j x, zs[j]? = some x → W.cell? ⟨b, off + j * 2, none⟩ = some (.int .i64 x.crane)) (hc1 : ∀ j x, zs[j]? = some x → W.cell? ⟨b, off + j * 2 + 1, none⟩ = some (.int .i64 x.sections)) (h0 : J [] W) :
    CallsIn F n Try.prog 209 #[.func (.yield l) #[] #[], .pointer (some ⟨Bs, 0, none⟩)] W fun e W' => (∃ v, e = .returned v) ∧
      ((∃ ys, ys = backRev zs len ∧ J ys W') ∨ (∃ pre, (∃ k, k ≤ len ∧ pre = backRev zs k) ∧ Jx pre W')) := by
  refine callsIn_of_wp Try.func209 rfl h7 ?_ hro
  simp only [Try.ntmps209, List.size_toArray, List.length_cons, List.length_nil, Nat.reduceAdd, Nat.reduceSub, Array.replicate_succ, Array.replicate_zero, List.push_toArray, List.append_toArray, List.nil_append, List.cons_append]
  gi_wp2
  gi_loopw [3] (fun i wr => ∃ k : Nat, k ≤ len ∧ i = .int .i64 ((len : Int) - 1 - k) ∧ J (backRev zs k) wr ∧ BK n₀ Bs W wr)
    (fun i _ => (intOf i + 1).toNat)
  case atStart => exact ⟨0, Nat.zero_le _, by simp, h0, BK.refl _ _ _⟩
  case round =>
    obtain ⟨k, hk, rfl, hJs, hnx⟩ := hrel
    have hBs' := (World.cell?_of_block (a := ⟨Bs, 0, none⟩) hnx.2).trans hBs
    by_cases hlt : k < len
    · obtain ⟨m, hm⟩ : ∃ m : Nat, len - 1 - k = m := ⟨_, rfl⟩
      have hmI : (len : Int) - 1 - k = (m : Int) := by omega
      have hx : zs[m]? = some (zs[m]'(by omega)) := List.getElem?_eq_getElem _
      obtain ⟨x, hxe⟩ : ∃ x, zs[m]'(by omega) = x := ⟨_, rfl⟩
      rw [hxe] at hx
      obtain ⟨eA, hbn⟩ := hb (by omega)
      rw [eA] at hBs'
      have hcx0 := (hnx.1.cell (p := ⟨b, off + m * 2, none⟩) hbn).trans (hc0 m x hx)
      have hcx1 := (hnx.1.cell (p := ⟨b, off + m * 2 + 1, none⟩) hbn).trans (hc1 m x hx)
      clear hb hBs hc0 hc1 eA
      have hst := backRev_step hl (by rw [hm]; exact hx)
      rw [hm] at hst
      have hml : (m : Int) < (len : Int) := by omega
      have hm0 : (0 : Int) ≤ (m : Int) := by omega
      obtain ⟨fn, tmps, assign, body, hy, hR⟩ := hY _ (m, x) wr hJs (by rw [backRev_len zs k (by omega)]; exact hlt)
      dsimp only at hy
      rw [hmI]
      gi_wp2
      refine hR.mono ?_
      rintro e W3 (⟨rfl, hJ3, hk3⟩ | ⟨rfl, hJx3⟩)
      · gi_wp2
        go_roundw
        case rel => exact ⟨k + 1, by omega, by go_num, by rw [hst]; exact hJ3, hnx.trans hk3⟩
        case measure => simp [intOf]
      · gi_wp2
        refine bodyPost_ret (results_none rfl _ _ _) rfl ?_
        exact ⟨⟨_, rfl⟩, .inr ⟨_, ⟨k + 1, by omega, hst.symm⟩, hJx3⟩⟩
    · obtain rfl : k = len := by omega
      have hneg : ¬ (0 : Int) ≤ (k : Int) - 1 - k := by omega
      gi_wp2
      go_end0
      exact ⟨⟨_, rfl⟩, .inl hJs⟩
end Go.Proofs.Ytdoinbnnpompiaa
