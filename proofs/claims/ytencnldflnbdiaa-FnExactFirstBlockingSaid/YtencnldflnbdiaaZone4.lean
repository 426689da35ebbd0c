/- l05In and l05Lines of the reference. -/
import Derived.Test.YtencnldflnbdiaaZone3
namespace Go.Proofs.Ytencnldflnbdiaa
open Go.RowKit Go.Sort
set_option linter.unusedVariables false

def outTo (cs : List Pnt) (p : Pnt) (k : Nat) : Int := if allTo (fun j => !decide (sdN cs j p = 0)) k then 2 else 1
theorem out_same {cs : List Pnt} {p : Pnt} {k : Nat} (h : ¬ sdN cs k p = 0) : outTo cs p (k + 1) = outTo cs p k := by unfold outTo; rw [allTo_succ, decide_eq_false h]; simp
theorem out_one {cs : List Pnt} {p : Pnt} {k : Nat} (h : sdN cs k p = 0) : outTo cs p (k + 1) = 1 := by unfold outTo; rw [allTo_succ, decide_eq_true h]; simp
def inV (cs : List Pnt) (p : Pnt) : Int := if inTo cs p cs.length then outTo cs p cs.length else 0
theorem inV_pos {cs : List Pnt} {p : Pnt} : decide (0 < inV cs p) = inTo cs p cs.length := by
  unfold inV outTo
  cases inTo cs p cs.length
  · rfl
  · simp only [if_true]; split <;> rfl
theorem in_step {cs : List Pnt} {p : Pnt} {k : Nat} (h : inTo cs p k = true) (h2 : ¬ sdN cs k p < 0) : inTo cs p (k + 1) = true := allTo_step h (decide_eq_true (by omega))
theorem in_bad {cs : List Pnt} {p : Pnt} {k n : Nat} (hk : k < n) (h2 : sdN cs k p < 0) : inTo cs p n = false := allTo_bad hk (decide_eq_false (by omega))
set_option maxRecDepth 100000 in
set_option maxHeartbeats 6400000 in
theorem l05In_any (b off : Nat) (z : Zone) (p : Pnt) (w : World) (lo : Nat) (hz : ZoneAt w b off z) (hb0 : b < w.heap.size) (h : Arr Pnt.cs 2 w lo w.heap.size z.r.a z.r.n z.r.xs) (hn : z.r.n ≤ 1048576) (hok : cornersTo z.r.xs z.r.n = true) (hp : plcB p.x p.y = true) :
    Calls Try.prog 81 #[.pointer (some ⟨b, off, none⟩), .agg #[.int .i64 p.x, .int .i64 p.y]] w fun e w' => e = .returned (.int .i64 (inV z.r.xs p)) ∧ Below w.heap.size w w' := by
  have HL : Hid (z.r.xs.length = z.r.n) := h.1
  obtain ⟨v, ⟨A, n, c, cs⟩⟩ := z
  dsimp only at *
  obtain ⟨W, hW⟩ : ∃ W : World, W = w.alloc (.cells #[.int .i64 p.x, .int .i64 p.y] 50) := ⟨_, rfl⟩
  have B0 : Below w.heap.size w W := by rw [hW]; exact (Below.refl _ _).alloc (Nat.le_refl _) _
  have P0 : Blk W w.heap.size 50 #[.int .i64 p.x, .int .i64 p.y] := by rw [hW]; exact Blk.new _ _ _
  have HS : Hid (w.heap.size < W.heap.size) := P0.lt
  have HP0 := Lib.hid P0
  have HZ := Lib.hid (hz.below B0 hb0)
  have HA := Lib.hid ((h.below B0).more B0.size)
  have HOK := Lib.hid hok
  have HP := Lib.hid hp
  have HB0 := Lib.hid B0
  clear hz h hok hp B0 P0
  go_enter Try.func81, Try.ntmps81
  go_wp2_with fail
  rw [← hW]
  clear hW
  have hwW := HB0.out.size
  obtain ⟨c0, c1, c2, c3⟩ := HZ.out
  dsimp only at c0 c1 c2 c3
  go_loopw [5, 6, 7] (fun v5 v6 v7 wr => ∃ k : Nat, k ≤ n ∧ v6 = .int .i64 k ∧ v5 = .int .i64 (outTo cs p k) ∧ inTo cs p k = true ∧ Below W.heap.size W wr) (fun _ v6 _ _ => n - (intOf v6).toNat)
  case atStart => exact ⟨0, Nat.zero_le _, rfl, rfl, rfl, Below.refl _ _⟩
  case round =>
    obtain ⟨k, hk, rfl, rfl, ht, hb⟩ := hrel
    have HT := Lib.hid ht
    have HBB := Lib.hid (HB0.out.trans (hb.mono hwW))
    have hbl0 : b < W.heap.size := by omega
    obtain ⟨c0, c1, c2, c3⟩ := HZ.out.below hb hbl0
    dsimp only at c0 c1 c2 c3
    have HA2 := Lib.hid ((HA.out.below hb).more hb.size)
    have HP2 := Lib.hid (HP0.out.bel hb)
    clear ht
    by_cases hlt : k < n
    · have hk0 : (0 : Int) ≤ (k : Int) := by omega
      have hk1 : (k : Int) < (n : Int) := by omega
      obtain ⟨b', off', q, eA, hq, _, hbl, d0, d1⟩ := Pnt.at HA2.out hlt
      subst eA
      obtain ⟨g0, g1⟩ := Pnt.blk HP2.out
      have HN := Lib.hid (fun d os => l05Next_any (some ⟨b', off', none⟩) n c k cs (grow (redrawn wr d) os) lo ((HA2.out.below (below_regrown wr d os)).more (below_regrown wr d os).size) hn hlt)
      have HC : Hid (∀ W, Calls Try.prog 111 #[.agg #[.int .i64 q.x, .int .i64 q.y], .agg #[.int .i64 (pt cs (nxN n k)).x, .int .i64 (pt cs (nxN n k)).y], .agg #[.int .i64 p.x, .int .i64 p.y]] W fun e w' => e = .returned (.int .i64 (sdN cs k p)) ∧ Below W.heap.size W w') := fun W => by
        have h9 := l05Cross_any (pt cs k) (pt cs (nxN n k)) p W (cornersTo_at HOK.out hlt) (cornersTo_at HOK.out (nx_lt (by omega))) HP.out
        unfold sdN
        rw [HL.out]
        rw [pt_at hq] at h9 ⊢
        exact h9
      have c3' := cell_regrown c3
      have d0' := cell_regrown d0
      have d1' := cell_regrown d1
      have g0' := cell_regrown g0
      have g1' := cell_regrown g1
      have HST : Hid (¬ sdN cs k p < 0 → inTo cs p (k + 1) = true) := in_step HT.out
      have HBD : Hid (sdN cs k p < 0 → inTo cs p n = false) := in_bad hlt
      have HO1 : Hid (¬ sdN cs k p = 0 → outTo cs p (k + 1) = outTo cs p k) := out_same
      have HO2 : Hid (sdN cs k p = 0 → outTo cs p (k + 1) = 1) := out_one
      clear hq
      generalize sdN cs k p = X at *
      rcases Int.lt_trichotomy X 0 with hx | hx | hx
      · have HE : Hid (inV cs p = 0) := by show _ = _; unfold inV; rw [HL.out, HBD.out hx]; rfl
        go_wp2
        refine wp_region_quiet_below (by kernel_rfl) (by kernel_rfl) ?_
        repeat (go_big_quiet_step (first | (go_at_call 83; exact Calls.regrown_of (HN.out _ _)) | (go_at_call 111; exact Calls.regrown_of (HC.out _))))
        refine wpQuiet_nil ?_
        intro _ hw9
        obtain ⟨⟨dq, osq⟩, hw9⟩ := hw9
        subst hw9
        have hb5 := below_regrown wr dq osq
        dsimp only at hb5 ⊢
        generalize grow (redrawn wr dq) osq = w5 at hb5 ⊢
        go_wp2
        go_ret
        exact ⟨by rw [HE.out]; rfl, HBB.out.trans (hb5.mono HBB.out.size)⟩
      · have HE : Hid (outTo cs p (k + 1) = 1) := HO2.out hx
        have HE2 : Hid (inTo cs p (k + 1) = true) := HST.out (by omega)
        subst hx
        go_wp2
        refine wp_region_quiet_below (by kernel_rfl) (by kernel_rfl) ?_
        repeat (go_big_quiet_step (first | (go_at_call 83; exact Calls.regrown_of (HN.out _ _)) | (go_at_call 111; exact Calls.regrown_of (HC.out _))))
        refine wpQuiet_nil ?_
        intro _ hw9
        obtain ⟨⟨dq, osq⟩, hw9⟩ := hw9
        subst hw9
        have hb5 := below_regrown wr dq osq
        dsimp only at hb5 ⊢
        generalize grow (redrawn wr dq) osq = w5 at hb5 ⊢
        go_wp2
        go_roundw
        case rel => exact ⟨k + 1, by omega, by go_num, by rw [HE.out], HE2.out, hb.trans (hb5.mono hb.size)⟩
        case measure => simp [intOf]; omega
      · have HE : Hid (outTo cs p (k + 1) = outTo cs p k) := HO1.out (by omega)
        have HE2 : Hid (inTo cs p (k + 1) = true) := HST.out (by omega)
        have hx1 : ¬ X < 0 := by omega
        have HX2 : Hid ((X == 0) = false) := beq_eq_false_iff_ne.2 (by omega)
        go_wp2
        refine wp_region_quiet_below (by kernel_rfl) (by kernel_rfl) ?_
        repeat (go_big_quiet_step (first | (go_at_call 83; exact Calls.regrown_of (HN.out _ _)) | (go_at_call 111; exact Calls.regrown_of (HC.out _))))
        refine wpQuiet_nil ?_
        intro _ hw9
        obtain ⟨⟨dq, osq⟩, hw9⟩ := hw9
        subst hw9
        have hb5 := below_regrown wr dq osq
        dsimp only at hb5 ⊢
        generalize grow (redrawn wr dq) osq = w5 at hb5 ⊢
        have hx2 := HX2.out
        go_wp2
        go_roundw
        case rel => exact ⟨k + 1, by omega, by go_num, by rw [HE.out], HE2.out, hb.trans (hb5.mono hb.size)⟩
        case measure => simp [intOf]; omega
    · obtain rfl : k = n := by omega
      have HE : Hid (inV cs p = outTo cs p k) := by show _ = _; unfold inV; rw [HL.out, HT.out]; rfl
      go_wp2
      go_ret
      exact ⟨by rw [HE.out]; rfl, HBB.out⟩
end Go.Proofs.Ytencnldflnbdiaa
