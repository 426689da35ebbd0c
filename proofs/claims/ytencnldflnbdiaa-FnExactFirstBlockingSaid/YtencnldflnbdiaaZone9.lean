/- shapeOk and ValidZone of the program: shapeB and zoneOk. -/
import Derived.Test.YtencnldflnbdiaaZone8
namespace Go.Proofs.Ytencnldflnbdiaa
open Go.RowKit Go.Sort
set_option linter.unusedVariables false

set_option maxHeartbeats 800000 in
theorem indexPlc_any (A : Option Addr) (n c : Nat) (ps : List Pnt) (w : World) (lo : Nat) (h : Arr Pnt.cs 2 w lo w.heap.size A n ps) (hn : n ≤ 9223372036854775807) (q : Pnt → Bool)
    (hf : ∀ (p : Pnt) (W : World), p ∈ ps → Below w.heap.size w W → Calls Try.prog 115 #[.agg #[.int .i64 p.x, .int .i64 p.y]] W fun e W' => e = .returned (.bool (q p)) ∧ Below W.heap.size W W') :
    Calls Try.prog 138 #[.slice A n c, .func (.func 115) #[] #[]] w fun e w' => e = .returned (.int .i64 (fIdx q ps)) ∧ Below w.heap.size w w' := by
  have HF := Lib.hid hf
  clear hf
  go_enter Try.func138, Try.ntmps138
  go_wp2
  go_loopw [8] (fun i wr => ∃ k : Nat, k ≤ n ∧ i = .int .i64 k ∧ noTo q ps k = true ∧ Below w.heap.size w wr) (fun i _ => n - (intOf i).toNat)
  case atStart => exact ⟨0, Nat.zero_le _, rfl, rfl, Below.refl _ _⟩
  case round =>
    obtain ⟨k, hk, rfl, hno, hb⟩ := hrel
    have HN := Lib.hid hno
    clear hno
    by_cases hlt : k < n
    · obtain ⟨b, off, p, rfl, hx, _, hbl, c0, c1⟩ := Pnt.at (h.below hb) hlt
      have HX := Lib.hid hx
      clear hx
      cases hq : q p
      · have HQ := Lib.hid hq
        go_wp2_with (go_at_call 115; refine (HF.out p _ (List.mem_of_getElem? HX.out) hb).mono ?_; rintro e w1 ⟨rfl, hb1⟩)
        go_roundw
        case rel => exact ⟨k + 1, by omega, by go_num, noTo_step HN.out HX.out HQ.out, hb.trans (hb1.mono hb.size)⟩
        case measure => simp [intOf]; omega
      · have HQ := Lib.hid hq
        go_wp2_with (go_at_call 115; refine (HF.out p _ (List.mem_of_getElem? HX.out) hb).mono ?_; rintro e w1 ⟨rfl, hb1⟩)
        go_ret
        exact ⟨by rw [fIdx_hit HN.out HX.out HQ.out]; rfl, hb.trans (hb1.mono hb.size)⟩
    · obtain rfl : k = n := by omega
      have HE : Hid (fIdx q ps = -1) := fIdx_none (by rw [h.1]; exact HN.out)
      go_wp2
      go_ret
      exact ⟨by rw [HE.out]; rfl, hb⟩

theorem containsPlc_any (A : Option Addr) (n c : Nat) (ps : List Pnt) (w : World) (lo : Nat) (h : Arr Pnt.cs 2 w lo w.heap.size A n ps) (hn : n ≤ 9223372036854775807) (q : Pnt → Bool)
    (hf : ∀ (p : Pnt) (W : World), p ∈ ps → Below w.heap.size w W → Calls Try.prog 115 #[.agg #[.int .i64 p.x, .int .i64 p.y]] W fun e W' => e = .returned (.bool (q p)) ∧ Below W.heap.size W W') :
    Calls Try.prog 114 #[.slice A n c, .func (.func 115) #[] #[]] w fun e w' => e = .returned (.bool (ps.any q)) ∧ Below w.heap.size w w' := by
  have HF := Lib.hid hf
  clear hf
  have HA : Hid (ps.any q = decide (0 ≤ fIdx q ps)) := any_fIdx q ps
  go_enter Try.func114, Try.ntmps114
  go_wp2_with fail
  refine (indexPlc_any A n c ps _ lo h hn q HF.out).mono ?_
  rintro e w1 ⟨rfl, hb⟩
  go_wp2
  go_ret
  exact ⟨by rw [HA.out]; rfl, hb⟩

theorem shape1_any (p : Pnt) (w : World) : Calls Try.prog 115 #[.agg #[.int .i64 p.x, .int .i64 p.y]] w fun e w' => e = .returned (.bool (!plcB p.x p.y)) ∧ Below w.heap.size w w' := by
  have HQ := Lib.hid (fun W => validPlace_any p.x p.y W)
  go_enter Try.func115, Try.ntmps115
  go_wp2_with fail
  refine (HQ.out _).mono ?_
  rintro e w1 ⟨rfl, hb1⟩
  go_wp2
  go_ret
  exact ⟨rfl, ((Below.refl _ _).alloc (Nat.le_refl _) _).trans (hb1.mono (by simp))⟩
theorem any_corners (cs : List Pnt) : cs.any (fun p => !plcB p.x p.y) = !cornersTo cs cs.length := by
  rw [Bool.eq_iff_iff, List.any_eq_true, Bool.not_eq_true', Bool.eq_false_iff, Ne, cornersTo, allTo_iff]
  constructor
  · rintro ⟨p, hp, h⟩ h9
    obtain ⟨k, hk, rfl⟩ := List.getElem_of_mem hp
    have := h9 k hk
    rw [pt_at (List.getElem?_eq_getElem hk)] at this
    rw [this] at h; cases h
  · intro h
    apply Classical.byContradiction
    intro h2
    apply h
    intro k hk
    cases hc : plcB (pt cs k).x (pt cs k).y with
    | true => rfl
    | false =>
      exact absurd ⟨cs[k], List.getElem_mem hk, by rw [pt_at (List.getElem?_eq_getElem hk)] at hc; rw [hc]; rfl⟩ h2
set_option maxRecDepth 100000 in
set_option maxHeartbeats 3200000 in
theorem shapeOk_any (z : Zone) (w : World) (lo : Nat) (h : Arr Pnt.cs 2 w lo w.heap.size z.r.a z.r.n z.r.xs) (hn : z.r.n ≤ 1048576) :
    Calls Try.prog 84 #[.agg #[.int .i64 z.v.kind, .int .i64 z.v.storeys, .int .i64 z.v.each, .slice z.r.a z.r.n z.r.cap]] w fun e w' => e = .returned (.bool (shapeB z.r.xs)) ∧ Below w.heap.size w w' := by
  have HL : Hid (z.r.xs.length = z.r.n) := h.1
  have HS : Hid (shapeB z.r.xs = (inB z.r.n 3 12 && (cornersTo z.r.xs z.r.n && turnsTo z.r.xs z.r.n))) := by show _ = _; unfold shapeB; rw [h.1]
  have HAN : Hid (z.r.xs.any (fun p => !plcB p.x p.y) = !cornersTo z.r.xs z.r.n) := by show _ = _; rw [any_corners, h.1]
  have HZ1 := Lib.hid (fun (W : World) (lo2 : Nat) (h2 : Arr Pnt.cs 2 W lo2 W.heap.size z.r.a z.r.n z.r.xs) => containsPlc_any z.r.a z.r.n z.r.cap z.r.xs W lo2 h2 (by omega) (fun p => !plcB p.x p.y) (fun p W' _ _ => shape1_any p W'))
  have HZS := Lib.hid (fun (W : World) (lo2 : Nat) (h2 : Arr Pnt.cs 2 W lo2 W.heap.size z.r.a z.r.n z.r.xs) q g1 g2 hf => sidesShape_any z W lo2 h2 hn q g1 g2 hf)
  obtain ⟨⟨kind, storeys, each⟩, ⟨A, n, c, cs⟩⟩ := z
  dsimp only at *
  obtain ⟨W, hW⟩ : ∃ W : World, W = (w.alloc (.cells #[.int .i64 kind, .int .i64 storeys, .int .i64 each, .slice A n c] 48)).alloc (.cells #[.int .i64 (n : Int)] 3) := ⟨_, rfl⟩
  have B0 : Below w.heap.size w W := by rw [hW]; exact ((Below.refl _ _).alloc (Nat.le_refl _) _).alloc (by simp) _
  have P0 : Blk W w.heap.size 48 #[.int .i64 kind, .int .i64 storeys, .int .i64 each, .slice A n c] := by rw [hW]; exact (Blk.new _ _ _).alloc _
  have P1 : Blk W (w.heap.size + 1) 3 #[.int .i64 (n : Int)] := by rw [hW]; exact Blk.new_at rfl (by simp)
  have hsW := P1.lt
  have HA := Lib.hid ((h.below B0).more B0.size)
  have HP0 := Lib.hid P0
  have HP1 := Lib.hid P1
  have HB0 := Lib.hid B0
  clear h B0 P0 P1
  by_cases h3 : (n : Int) < 3
  · have HE : Hid (shapeB cs = false) := by show _ = _; rw [HS.out, show inB (n : Int) 3 12 = false from inB_false.2 (.inl h3)]; rfl
    go_enter Try.func84, Try.ntmps84
    go_wp2
    go_ret
    rw [← hW]
    exact ⟨by rw [HE.out]; rfl, HB0.out⟩
  · by_cases h12 : 12 < (n : Int)
    · have HE : Hid (shapeB cs = false) := by show _ = _; rw [HS.out, show inB (n : Int) 3 12 = false from inB_false.2 (.inr h12)]; rfl
      go_enter Try.func84, Try.ntmps84
      go_wp2
      go_ret
      rw [← hW]
      exact ⟨by rw [HE.out]; rfl, HB0.out⟩
    · have HSB : Hid (shapeB cs = (cornersTo cs n && turnsTo cs n)) := by show _ = _; rw [HS.out, show inB (n : Int) 3 12 = true from inB_true.2 (by omega)]; rfl
      have hn12 : n ≤ 12 := by omega
      cases hc : cornersTo cs n
      · have HE : Hid (shapeB cs = false) := by show _ = _; rw [HSB.out, hc]; rfl
        rw [hc] at HAN
        go_enter Try.func84, Try.ntmps84
        go_wp2_with fail
        rw [← hW]
        refine (HZ1.out W lo HA.out).mono ?_
        rintro e w1 ⟨rfl, hb1⟩
        rw [HAN.out]
        go_wp2
        go_ret
        exact ⟨by rw [HE.out]; rfl, HB0.out.trans (hb1.mono HB0.out.size)⟩
      · have HE : Hid (shapeB cs = turnsTo cs n) := by show _ = _; rw [HSB.out, hc]; rfl
        have HT : Hid (turnsTo cs n = allTo (fun k => rowTo cs k n) n) := by show _ = _; unfold turnsTo; rw [HL.out]
        rw [hc] at HAN
        have HC := Lib.hid hc
        clear hc
        go_enter Try.func84, Try.ntmps84
        go_wp2_with fail
        rw [← hW]
        clear hW
        refine (HZ1.out W lo HA.out).mono ?_
        rintro e w1 ⟨rfl, hb1⟩
        rw [HAN.out]
        have HB1 := Lib.hid (HB0.out.trans (hb1.mono HB0.out.size))
        have HA1 := Lib.hid ((HA.out.below hb1).more hb1.size)
        have HP01 := Lib.hid (HP0.out.bel hb1)
        have HP11 := Lib.hid (HP1.out.bel hb1)
        have hs1 := HP11.out.lt
        have z0 : w1.cell? ⟨w.heap.size, 0, none⟩ = some (.int .i64 kind) := (HP01.out.cell 0).trans rfl
        have z1 : w1.cell? ⟨w.heap.size, 1, none⟩ = some (.int .i64 storeys) := (HP01.out.cell 1).trans rfl
        have z2 : w1.cell? ⟨w.heap.size, 2, none⟩ = some (.int .i64 each) := (HP01.out.cell 2).trans rfl
        have z3 : w1.cell? ⟨w.heap.size, 3, none⟩ = some (.slice A n c) := (HP01.out.cell 3).trans rfl
        clear hb1
        go_wp2_with fail
        refine (HZS.out w1 lo HA1.out (fun k => rowTo cs k n) _ _ (fun k X hk hX => shape2_any w.heap.size (w.heap.size + 1) k A n c cs X lo ((hX.cell (p := ⟨w.heap.size, 3, none⟩) (show w.heap.size < w1.heap.size by omega)).trans z3) (by have := hX.size; omega) ((hX.cell (p := ⟨w.heap.size + 1, 0, none⟩) hs1).trans ((HP11.out.cell 0).trans rfl)) (by have := hX.size; omega) ((HA1.out.below hX).more hX.size) hn HC.out hk)).mono ?_
        rintro e w2 ⟨rfl, hb2⟩
        go_wp2
        go_ret
        exact ⟨by rw [HE.out, HT.out]; rfl, HB1.out.trans (hb2.mono HB1.out.size)⟩
end Go.Proofs.Ytencnldflnbdiaa
