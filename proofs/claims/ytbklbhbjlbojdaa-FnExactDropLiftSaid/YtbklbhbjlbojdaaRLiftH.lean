/- toLiftS, with a word more: every row that it lays has a head. -/
import Derived.Test.YtbklbhbjlbojdaaRLift
namespace Go.Proofs.Ytbklbhbjlbojdaa
open Go.RowKit
set_option linter.unusedVariables false

theorem heads_snoc {out : List Lift} {p : Lift} (h : ∀ q ∈ out, ∃ a, q.r.a = some a) (h2 : ∃ a, p.r.a = some a) : ∀ q ∈ out ++ [p], ∃ a, q.r.a = some a := by
  intro q hq
  rcases List.mem_append.1 hq with hq | hq
  · exact h q hq
  · rw [List.mem_singleton] at hq; subst hq; exact h2
def ToLiftH (w : World) (n : Nat) (ps : List Lift) (e : Ending) (w' : World) : Prop :=
  ∃ g ps', e = .returned (.slice (some ⟨g, 0, none⟩) n n) ∧ ps'.map Lift.val = ps.map Lift.val ∧ LiftsOwn w' w.heap.size w'.heap.size (some ⟨g, 0, none⟩) n ps' ∧ (∀ q ∈ ps', ∃ a, q.r.a = some a) ∧ Below w.heap.size w w'
set_option maxHeartbeats 3200000 in
theorem toLiftH_any (A : Option Addr) (n c : Nat) (ps : List Lift) (w : World) (lo : Nat) (h : Lifts w lo w.heap.size A n ps) (hn : n ≤ 1048576) (hp : ∀ p ∈ ps, p.r.n ≤ 1048576) :
    Calls Try.prog 17 #[.slice A n c] w (ToLiftH w n ps) := by
  obtain ⟨i0, hi, hz0, hz1, hz2⟩ := info_parts LiftInfo
  have hmk := fun W => run_make_rowN (P := Try.prog) 30 36 i0 _ Try.underlying30 hi hz0 .i64 .i64 n n (Nat.le_refl _) (by rw [hz2]; omega) (by omega) W
  rw [hz1] at hmk
  go_enter Try.func17, Try.ntmps17
  go_wp2
  clear hmk
  go_loopw [4] (fun i wr => ∃ (k : Nat) (cs : Array Value) (out : List Lift), k ≤ n ∧ i = .int .i64 k ∧ Blk wr w.heap.size 36 cs ∧ cs.size = n * 9 ∧ Laid Lift.val Lift.cs 9 ic 1 2 Lift.r wr (w.heap.size + 1) cs ps k out ∧ w.heap.size + 1 ≤ wr.heap.size ∧ Below w.heap.size w wr ∧ (∀ q ∈ out, ∃ a, q.r.a = some a)) (fun i _ => n - (intOf i).toNat)
  case atStart => exact ⟨0, _, [], Nat.zero_le _, rfl, Blk.new _ _ _, by simp [size_madeCells], Laid.start _ _ _ _ (by simp), by simp, (Below.refl _ _).alloc (Nat.le_refl _) _, fun q hq => (by cases hq)⟩
  case round =>
    obtain ⟨k, cs, out, hk, rfl, hblk, hsz, hlaid, hws, hb, hhd⟩ := hrel
    have HHD := Lib.hid hhd
    clear hhd
    have HZ := Lib.hid hsz
    clear hsz
    by_cases hlt : k < n
    · obtain ⟨b, off, p, rfl, hx, _, hbl, hrow, c0, c1, c2, c3, c4, c5, c6, c7, c8⟩ := Lift.at (h.below hb) hlt
      have hrn := hp p (List.mem_of_getElem? hx)
      have hg := hblk.lt
      have HX := Lib.hid hx
      have HL := Lib.hid hlaid
      have hsz2 := hb.size
      obtain ⟨u0, e0⟩ : ∃ u, wr.cell? ⟨w.heap.size, k * 9, none⟩ = some u := hblk.there (by have := HZ.out; omega)
      obtain ⟨u1, e1⟩ : ∃ u, wr.cell? ⟨w.heap.size, k * 9 + 1, none⟩ = some u := hblk.there (by have := HZ.out; omega)
      obtain ⟨u2, e2⟩ : ∃ u, wr.cell? ⟨w.heap.size, k * 9 + 2, none⟩ = some u := hblk.there (by have := HZ.out; omega)
      obtain ⟨u3, e3⟩ : ∃ u, wr.cell? ⟨w.heap.size, k * 9 + 3, none⟩ = some u := hblk.there (by have := HZ.out; omega)
      obtain ⟨u4, e4⟩ : ∃ u, wr.cell? ⟨w.heap.size, k * 9 + 4, none⟩ = some u := hblk.there (by have := HZ.out; omega)
      obtain ⟨u5, e5⟩ : ∃ u, wr.cell? ⟨w.heap.size, k * 9 + 5, none⟩ = some u := hblk.there (by have := HZ.out; omega)
      obtain ⟨u6, e6⟩ : ∃ u, wr.cell? ⟨w.heap.size, k * 9 + 6, none⟩ = some u := hblk.there (by have := HZ.out; omega)
      obtain ⟨u7, e7⟩ : ∃ u, wr.cell? ⟨w.heap.size, k * 9 + 7, none⟩ = some u := hblk.there (by have := HZ.out; omega)
      obtain ⟨u8, e8⟩ : ∃ u, wr.cell? ⟨w.heap.size, k * 9 + 8, none⟩ = some u := hblk.there (by have := HZ.out; omega)
      have f0 := hblk.frozen (k * 9)
      have f1 := hblk.frozen (k * 9 + 1)
      have f2 := hblk.frozen (k * 9 + 2)
      have f3 := hblk.frozen (k * 9 + 3)
      have f4 := hblk.frozen (k * 9 + 4)
      have f5 := hblk.frozen (k * 9 + 5)
      have f6 := hblk.frozen (k * 9 + 6)
      have f7 := hblk.frozen (k * 9 + 7)
      have f8 := hblk.frozen (k * 9 + 8)
      have HB := Lib.hid hblk
      have hk0 : (0 : Int) ≤ (k : Int) := by omega
      have hk1 : (k : Int) < (n : Int) := by omega
      clear hblk hx hlaid
      go_wp2_with (go_at_call 18; refine (toLift_any p _ _ (hrow.more hsz2) hrn).mono ?_; rintro e w1 ⟨g, rfl, ho, hb1⟩; have e01 := (hb1.cell (p := ⟨w.heap.size, k * 9, none⟩) hg).trans e0; have f01 := (hb1.frozen (p := ⟨w.heap.size, k * 9, none⟩) hg).trans f0; have e11 := (hb1.cell (p := ⟨w.heap.size, k * 9 + 1, none⟩) hg).trans e1; have f11 := (hb1.frozen (p := ⟨w.heap.size, k * 9 + 1, none⟩) hg).trans f1; have e21 := (hb1.cell (p := ⟨w.heap.size, k * 9 + 2, none⟩) hg).trans e2; have f21 := (hb1.frozen (p := ⟨w.heap.size, k * 9 + 2, none⟩) hg).trans f2; have e31 := (hb1.cell (p := ⟨w.heap.size, k * 9 + 3, none⟩) hg).trans e3; have f31 := (hb1.frozen (p := ⟨w.heap.size, k * 9 + 3, none⟩) hg).trans f3; have e41 := (hb1.cell (p := ⟨w.heap.size, k * 9 + 4, none⟩) hg).trans e4; have f41 := (hb1.frozen (p := ⟨w.heap.size, k * 9 + 4, none⟩) hg).trans f4; have e51 := (hb1.cell (p := ⟨w.heap.size, k * 9 + 5, none⟩) hg).trans e5; have f51 := (hb1.frozen (p := ⟨w.heap.size, k * 9 + 5, none⟩) hg).trans f5; have e61 := (hb1.cell (p := ⟨w.heap.size, k * 9 + 6, none⟩) hg).trans e6; have f61 := (hb1.frozen (p := ⟨w.heap.size, k * 9 + 6, none⟩) hg).trans f6; have e71 := (hb1.cell (p := ⟨w.heap.size, k * 9 + 7, none⟩) hg).trans e7; have f71 := (hb1.frozen (p := ⟨w.heap.size, k * 9 + 7, none⟩) hg).trans f7; have e81 := (hb1.cell (p := ⟨w.heap.size, k * 9 + 8, none⟩) hg).trans e8; have f81 := (hb1.frozen (p := ⟨w.heap.size, k * 9 + 8, none⟩) hg).trans f8)
      go_roundw
      case rel => exact ⟨k + 1, _, _, by omega, by go_num, (((((((((HB.out.below hb1 hg).set_ (k * 9) (.string p.v.name)).set_ (k * 9 + 1) (.int .i64 p.v.weight)).set_ (k * 9 + 2) (.int .i64 p.v.fx)).set_ (k * 9 + 3) (.int .i64 p.v.fy)).set_ (k * 9 + 4) (.int .i64 p.v.tx)).set_ (k * 9 + 5) (.int .i64 p.v.ty)).set_ (k * 9 + 6) (.int .i64 p.v.height)).set_ (k * 9 + 7) (.int .i64 p.v.deadline)).set_ (k * 9 + 8) (.slice (some ⟨g, 0, none⟩) p.r.n p.r.n), by simp [HZ.out], (HL.out.step (p' := ⟨p.v, ⟨some ⟨g, 0, none⟩, p.r.n, p.r.n, p.r.xs⟩⟩) HX.out rfl (fun hf => hf.put9 (x := ⟨p.v, ⟨some ⟨g, 0, none⟩, p.r.n, p.r.n, p.r.xs⟩⟩) (by rw [← HL.out.len]; simp) (by have := HZ.out; omega)) hb1 ho).within ((((((((((Within.refl w.heap.size (w.heap.size + 1) w1).setCell (Nat.le_refl _) (by simp) _).setCell (Nat.le_refl _) (by simp) _).setCell (Nat.le_refl _) (by simp) _).setCell (Nat.le_refl _) (by simp) _).setCell (Nat.le_refl _) (by simp) _).setCell (Nat.le_refl _) (by simp) _).setCell (Nat.le_refl _) (by simp) _).setCell (Nat.le_refl _) (by simp) _).setCell (Nat.le_refl _) (by simp) _) (by omega), by have := hb1.size; simp; omega, (((((((((hb.trans (hb1.mono hb.size)).setCell (Nat.le_refl _) _).setCell (Nat.le_refl _) _).setCell (Nat.le_refl _) _).setCell (Nat.le_refl _) _).setCell (Nat.le_refl _) _).setCell (Nat.le_refl _) _).setCell (Nat.le_refl _) _).setCell (Nat.le_refl _) _).setCell (Nat.le_refl _) _, heads_snoc HHD.out ⟨_, rfl⟩⟩
      case measure => simp [intOf]; omega
    · obtain rfl : k = n := by omega
      go_wp2
      go_ret
      exact ⟨w.heap.size, out, rfl, by rw [hlaid.val_, List.take_of_length_le (by rw [List.length_map, h.len]; exact Nat.le_refl _)], hlaid.nown hblk (by rw [HZ.out]; exact Nat.le_refl _), HHD.out, hb⟩

end Go.Proofs.Ytbklbhbjlbojdaa
