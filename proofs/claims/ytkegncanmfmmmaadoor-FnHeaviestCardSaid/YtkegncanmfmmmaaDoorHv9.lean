/- Made by merge.py of XHv6, XHv8, XHv9. -/
import Derived.Test.YtkegncanmfmmmaaDoorSiteLaw
import Derived.Test.YtkegncanmfmmmaaDoorAbles4
import Derived.Test.YtkegncanmfmmmaaDoorSites
import Derived.Test.YtkegncanmfmmmaaDoorDir3
import Derived.Test.YtkegncanmfmmmaaDoorDirs
/- XHv6: The heaviest load at a place: plain law (the first crane with the greatest load). -/
namespace Go.Proofs.YtkegncanmfmmmaaDoor
open Go.RowKit
set_option linter.unusedVariables false

def hvF (cs : List CV) (x y : Int) (k : Nat) : Int := match cs[k]? with | some c => ldP c x y | none => -1
theorem hvF_of {cs : List CV} {x y : Int} {k : Nat} {c : CV} (h : cs[k]? = some c) : hvF cs x y k = ldP c x y := by simp only [hvF, h]
theorem hvF_range {cs : List CV} (h : siteOk cs = true) (x y : Int) (k : Nat) : -1 ≤ hvF cs x y k ∧ hvF cs x y k ≤ 50000 := by
  unfold hvF
  cases hc : cs[k]? with
  | none => exact ⟨(by decide : (-1 : Int) ≤ -1), (by decide : (-1 : Int) ≤ 50000)⟩
  | some c => exact ldP_range (siteOk_at h hc) x y
/-- the best of the first k cranes, and its load -/
def hvTo (f : Nat → Int) : Nat → Int × Int
  | 0 => (-1, -1)
  | k + 1 => if (hvTo f k).2 < f k then ((k : Int), f k) else hvTo f k
theorem hvTo_yes {f : Nat → Int} {k : Nat} (h : (hvTo f k).2 < f k) : hvTo f (k + 1) = ((k : Int), f k) := if_pos h
theorem hvTo_no {f : Nat → Int} {k : Nat} (h : ¬ (hvTo f k).2 < f k) : hvTo f (k + 1) = hvTo f k := if_neg h
/-- none, or the first of the greatest -/
def HvIs (f : Nat → Int) (k : Nat) (b m : Int) : Prop :=
  (b = -1 ∧ m = -1 ∧ ∀ j, j < k → f j < 0) ∨ (0 ≤ b ∧ b < (k : Int) ∧ 0 ≤ m ∧ m = f b.toNat ∧ (∀ j, j < k → f j ≤ m) ∧ ∀ j : Nat, (j : Int) < b → f j < m)
theorem hvTo_is {f : Nat → Int} (hf : ∀ j, -1 ≤ f j) : ∀ k, HvIs f k (hvTo f k).1 (hvTo f k).2
  | 0 => .inl ⟨rfl, rfl, fun j hj => by omega⟩
  | k + 1 => by
    have ih := hvTo_is hf k
    have hk := hf k
    by_cases h : (hvTo f k).2 < f k
    · rw [hvTo_yes h]
      refine .inr ⟨by dsimp only; omega, by dsimp only; omega, ?_, by dsimp only; rw [Int.toNat_natCast], fun j hj => ?_, fun j hj => ?_⟩
      · dsimp only
        rcases ih with ⟨h1, h2, h3⟩ | ⟨h1, h2, h3, h4, h5, h6⟩ <;> omega
      · dsimp only
        by_cases hjk : j = k
        · subst hjk; exact Int.le_refl _
        · rcases ih with ⟨h1, h2, h3⟩ | ⟨h1, h2, h3, h4, h5, h6⟩
          · have := h3 j (by omega); omega
          · have := h5 j (by omega); omega
      · dsimp only at hj ⊢
        rcases ih with ⟨h1, h2, h3⟩ | ⟨h1, h2, h3, h4, h5, h6⟩
        · have := h3 j (by omega); omega
        · have := h5 j (by omega); omega
    · rw [hvTo_no h]
      rcases ih with ⟨h1, h2, h3⟩ | ⟨h1, h2, h3, h4, h5, h6⟩
      · refine .inl ⟨h1, h2, fun j hj => ?_⟩
        by_cases hjk : j = k
        · subst hjk; omega
        · exact h3 j (by omega)
      · refine .inr ⟨h1, by omega, h3, h4, fun j hj => ?_, h6⟩
        by_cases hjk : j = k
        · subst hjk; omega
        · exact h5 j (by omega)
def hvI (f : Nat → Int) (n : Nat) : Int := if (hvTo f n).1 < 0 then 0 else (hvTo f n).1
def hvL (f : Nat → Int) (n : Nat) : Int := if (hvTo f n).1 < 0 then 0 else (hvTo f n).2
def hvC (f : Nat → Int) (n : Nat) : Int := if (hvTo f n).1 < 0 then 3 else 0
theorem hvTo_low {f : Nat → Int} (hf : ∀ j, -1 ≤ f j) (k : Nat) : -1 ≤ (hvTo f k).2 ∧ -1 ≤ (hvTo f k).1 ∧ (hvTo f k).1 < (k : Int) + 1 := by
  have := hvTo_is hf k
  unfold HvIs at this
  omega
theorem hvTo_high {f : Nat → Int} {M : Int} (hM : -1 ≤ M) (hf : ∀ j, f j ≤ M) : ∀ k, (hvTo f k).2 ≤ M
  | 0 => hM
  | k + 1 => by
    by_cases h : (hvTo f k).2 < f k
    · rw [hvTo_yes h]; exact hf k
    · rw [hvTo_no h]; exact hvTo_high hM hf k
/-- the answer's three numbers: none found, or the first of the greatest -/
theorem hv_cases {f : Nat → Int} (hf : ∀ j, -1 ≤ f j) (n : Nat) :
    (hvI f n = 0 ∧ hvL f n = 0 ∧ hvC f n = 3 ∧ ∀ j, j < n → f j < 0) ∨
    (hvC f n = 0 ∧ 0 ≤ hvI f n ∧ hvI f n < (n : Int) ∧ 0 ≤ hvL f n ∧ hvL f n = f (hvI f n).toNat ∧ (∀ j, j < n → f j ≤ hvL f n) ∧ ∀ j : Nat, (j : Int) < hvI f n → f j < hvL f n) := by
  have h := hvTo_is hf n
  unfold hvI hvL hvC
  rcases h with ⟨h1, h2, h3⟩ | ⟨h1, h2, h3, h4, h5, h6⟩
  · rw [h1]; exact .inl ⟨rfl, rfl, rfl, h3⟩
  · have hn : ¬ (hvTo f n).1 < 0 := by omega
    rw [if_neg hn, if_neg hn, if_neg hn]
    exact .inr ⟨rfl, h1, h2, h3, h4, h5, h6⟩
/-- whether one of the first k reaches -/
def anyB (f : Nat → Int) : Nat → Bool
  | 0 => false
  | k + 1 => anyB f k || decide (0 ≤ f k)
theorem anyB_yes {f : Nat → Int} {k : Nat} (h : 0 ≤ f k) : anyB f (k + 1) = true := by show (_ || _) = _; rw [decide_eq_true h, Bool.or_true]
theorem anyB_no {f : Nat → Int} {k : Nat} (h : f k < 0) : anyB f (k + 1) = anyB f k := by show (_ || _) = _; rw [decide_eq_false (by omega), Bool.or_false]
theorem anyB_none {f : Nat → Int} : ∀ n, (∀ j, j < n → f j < 0) → anyB f n = false
  | 0, _ => rfl
  | n + 1, h => by rw [anyB_no (h n (by omega))]; exact anyB_none n fun j hj => h j (by omega)
theorem anyB_some {f : Nat → Int} {j : Nat} (hj : 0 ≤ f j) : ∀ n, j < n → anyB f n = true
  | 0, h => by omega
  | n + 1, h => by
    show (_ || _) = _
    by_cases e : j = n
    · subst e; rw [decide_eq_true hj, Bool.or_true]
    · rw [anyB_some hj n (by omega), Bool.true_or]
theorem anyB_end {f : Nat → Int} (hf : ∀ j, -1 ≤ f j) (n : Nat) : (hvC f n = 3 ∧ anyB f n = false) ∨ (hvC f n = 0 ∧ anyB f n = true) := by
  rcases hv_cases hf n with ⟨_, _, h3, h4⟩ | ⟨h1, h2, h3, h4, h5, _, _⟩
  · exact .inl ⟨h3, anyB_none n h4⟩
  · exact .inr ⟨h1, anyB_some (j := (hvI f n).toNat) (by omega) n (by omega)⟩
end Go.Proofs.YtkegncanmfmmmaaDoor
/- XHv8: HeaviestAt of the program: the first crane with the greatest load. -/
namespace Go.Proofs.YtkegncanmfmmmaaDoor
open Go.RowKit
set_option linter.unusedVariables false

theorem hv_end {f : Nat → Int} {n : Nat} {b m : Int} (hb : (hvTo f n).1 = b) (hm : (hvTo f n).2 = m) : (b < 0 → hvI f n = 0 ∧ hvL f n = 0 ∧ hvC f n = 3) ∧ (¬ b < 0 → hvI f n = b ∧ hvL f n = m ∧ hvC f n = 0) := by
  subst hb
  subst hm
  unfold hvI hvL hvC
  refine ⟨fun h => ?_, fun h => ?_⟩
  · rw [if_pos h, if_pos h, if_pos h]; exact ⟨rfl, rfl, rfl⟩
  · rw [if_neg h, if_neg h, if_neg h]; exact ⟨rfl, rfl, rfl⟩
theorem loadAtPlace_eq (p : Crane) (x y : Int) (w : World) (lo : Nat) (hr : Arr ChartStep.cs 2 w lo w.heap.size p.r.a p.r.n p.r.xs) (hn : p.r.n ≤ 9223372036854775807) (hok : craneOk p.val = true) (h2 : Plc x y) {v : Int} {b : Bool} (hv : ldRet (ldP p.val x y) = .tuple #[.int .i64 v, .bool b]) :
    Calls Tryd.prog 35 #[.agg #[.string p.v.name, .int .i64 p.v.ax, .int .i64 p.v.ay, .int .i64 p.v.height, .int .i64 p.v.jib, .int .i64 p.v.back, .slice p.r.a p.r.n p.r.cap], .agg #[.int .i64 x, .int .i64 y]] w fun e w' => e = .returned (.tuple #[.int .i64 v, .bool b]) ∧ RowKit.Below w.heap.size w w' := by
  rw [← hv]; exact loadAtPlace_any p x y w lo hr hn hok h2
set_option maxRecDepth 100000 in
set_option maxHeartbeats 1600000 in
theorem heaviestAt_any (s : Row Crane) (cs : List CV) (hv : s.xs.map Crane.val = cs) (x y : Int) (w : World) (lo : Nat) (h : Cranes w lo w.heap.size s.a s.n s.xs) (hc : s.n ≤ s.cap) (hc2 : s.n ≤ 1048576) (hc3 : s.cap ≤ 9223372036854775807) (hp : ∀ p ∈ s.xs, p.wf) (hok : siteOk cs = true) (hpl : Plc x y) :
    Calls Tryd.prog 10 #[.agg #[.slice s.a s.n s.cap], .agg #[.int .i64 x, .int .i64 y]] w fun e w' => e = .returned (.tuple #[.int .i64 (hvI (hvF cs x y) s.n), .int .i64 (hvL (hvF cs x y) s.n), .int .i64 (hvC (hvF cs x y) s.n)]) ∧ RowKit.Below w.heap.size w w' := by
  have HV := Lib.hid hv
  have HP := Lib.hid hp
  have HO := Lib.hid hok
  have HPL := Lib.hid hpl
  have HL : Hid (cs.length = s.n) := by show _ = _; rw [cv_len hv, h.len]
  obtain ⟨A, n, c, ps⟩ := s
  dsimp only at *
  have hn1 : 1 ≤ n := by have := (siteOk_len hok).1; rw [HL.out] at this; exact this
  obtain ⟨gb, go, _, eA, -⟩ := Crane.at h (i := 0) (by omega)
  subst eA
  obtain ⟨W, hW⟩ : ∃ W : World, W = (w.alloc (.cells #[.slice (some ⟨gb, go, none⟩) n c] 26)).alloc (.cells #[.int .i64 x, .int .i64 y] 29) := ⟨_, rfl⟩
  have B0 : RowKit.Below w.heap.size w W := by rw [hW]; exact ((Below.refl _ _).alloc (Nat.le_refl _) _).alloc (by simp) _
  have P0 : Blk W w.heap.size 26 #[.slice (some ⟨gb, go, none⟩) n c] := by rw [hW]; exact (Blk.new _ _ _).alloc _
  have Q0 : Blk W (w.heap.size + 1) 29 #[.int .i64 x, .int .i64 y] := by rw [hW]; exact Blk.new_at rfl (by simp)
  have HC := Lib.hid h
  have HF : Hid (∀ k, -1 ≤ hvF cs x y k ∧ hvF cs x y k ≤ 50000) := fun k => hvF_range hok x y k
  have c9 : W.cell? ⟨w.heap.size, 0, none⟩ = some (.slice (some ⟨gb, go, none⟩) n c) := P0.cell 0
  have q0 : W.cell? ⟨w.heap.size + 1, 0, none⟩ = some (.int .i64 x) := Q0.cell 0
  have q1 : W.cell? ⟨w.heap.size + 1, 1, none⟩ = some (.int .i64 y) := Q0.cell 1
  clear hv hp h hok hpl
  go_enter Tryd.func10, Tryd.ntmps10
  go_wp2_with fail
  rw [← hW]
  clear hW
  go_wp2_with fail
  refine (validSiteC_any ⟨some ⟨gb, go, none⟩, n, c, ps⟩ cs HV.out _ lo ((HC.out.below B0).more B0.size) hc hc2 hc3 HP.out).mono ?_
  rintro e w1 ⟨rfl, hb1⟩
  rw [HO.out]
  have HB1 := Lib.hid (B0.trans (hb1.mono B0.size))
  have P1 := P0.bel hb1
  have Q1 := Q0.bel hb1
  clear c9 q0 q1 P0 Q0 B0 hb1
  have c9 : w1.cell? ⟨w.heap.size, 0, none⟩ = some (.slice (some ⟨gb, go, none⟩) n c) := P1.cell 0
  have q0 : w1.cell? ⟨w.heap.size + 1, 0, none⟩ = some (.int .i64 x) := Q1.cell 0
  have q1 : w1.cell? ⟨w.heap.size + 1, 1, none⟩ = some (.int .i64 y) := Q1.cell 1
  go_wp2_with fail
  refine (validPlace_yes x y _ HPL.out).mono ?_
  rintro e w2 ⟨rfl, hb2⟩
  have HB2 := Lib.hid (HB1.out.trans (hb2.mono HB1.out.size))
  have P2 := P1.bel hb2
  have Q2 := Lib.hid (Q1.bel hb2)
  clear c9 q0 q1 P1 Q1 hb2
  have c9 : w2.cell? ⟨w.heap.size, 0, none⟩ = some (.slice (some ⟨gb, go, none⟩) n c) := P2.cell 0
  have P9 := Lib.hid P2
  clear P2
  go_wp2
  clear c9
  go_loopw [7, 8, 24] (fun bv mv iv wr => ∃ k : Nat, k ≤ n ∧ iv = .int .i64 k ∧ bv = .int .i64 (hvTo (hvF cs x y) k).1 ∧ mv = .int .i64 (hvTo (hvF cs x y) k).2 ∧ Blk wr w.heap.size 26 #[.slice (some ⟨gb, go, none⟩) n c] ∧ Blk wr (w.heap.size + 1) 29 #[.int .i64 x, .int .i64 y] ∧ RowKit.Below w.heap.size w wr) (fun _ _ iv _ => n - (intOf iv).toNat)
  case atStart => exact ⟨0, Nat.zero_le _, rfl, rfl, rfl, P9.out, Q2.out, HB2.out⟩
  case round =>
    obtain ⟨k, hk, rfl, rfl, rfl, hP, hQ, hb⟩ := hrel
    have hsz := hb.size
    have hlow := hvTo_low (f := hvF cs x y) (fun j => (HF.out j).1) k
    have hhigh := hvTo_high (f := hvF cs x y) (M := 50000) (by omega) (fun j => (HF.out j).2) k
    obtain ⟨bb, hbb⟩ : ∃ b, (hvTo (hvF cs x y) k).1 = b := ⟨_, rfl⟩
    obtain ⟨mm, hmm⟩ : ∃ m, (hvTo (hvF cs x y) k).2 = m := ⟨_, rfl⟩
    rw [hbb, hmm] at hlow ⊢
    rw [hmm] at hhigh
    have HBB := Lib.hid hbb
    have HMM := Lib.hid hmm
    clear hbb hmm
    by_cases hlt : k < n
    · obtain ⟨b, off, p, eA, hx, _, hbl, hrow, c0, c1, c2, c3, c4, c5, c6⟩ := Crane.at ((HC.out.below hb).more hsz) hlt
      obtain ⟨rfl, rfl⟩ : gb = b ∧ go = off := by injection eA with eA; injection eA with e1 e2; exact ⟨e1, e2⟩
      clear eA
      have HX := Lib.hid (cv_at HV.out hx)
      have hpw := HP.out p (List.mem_of_getElem? hx)
      have hkn : (k : Int) < (n : Int) := by omega
      have hk0 : (0 : Int) ≤ (k : Int) := by omega
      have hfk := HF.out k
      have hfe : hvF cs x y k = ldP p.val x y := hvF_of HX.out
      obtain ⟨v, hv⟩ : ∃ v, ldP p.val x y = v := ⟨_, rfl⟩
      rw [hfe, hv] at hfk
      have HFE : Hid (hvF cs x y k = v) := hfe.trans hv
      have HVV := Lib.hid hv
      obtain ⟨W1, hW1⟩ : ∃ W1 : World, W1 = wr.alloc (.cells #[.string p.v.name, .int .i64 p.v.ax, .int .i64 p.v.ay, .int .i64 p.v.height, .int .i64 p.v.jib, .int .i64 p.v.back, .slice p.r.a p.r.n p.r.cap] 38) := ⟨_, rfl⟩
      have B1 : RowKit.Below wr.heap.size wr W1 := by rw [hW1]; exact (Below.refl _ _).alloc (Nat.le_refl _) _
      have HP1 := Lib.hid (hP.bel B1)
      have HQ1 := hQ.bel B1
      have q0 : wr.cell? ⟨w.heap.size + 1, 0, none⟩ = some (.int .i64 x) := hQ.cell 0
      have q1 : wr.cell? ⟨w.heap.size + 1, 1, none⟩ = some (.int .i64 y) := hQ.cell 1
      have ql := hQ.lt
      have HQ := Lib.hid HQ1
      have HB1 := Lib.hid (hb.trans (B1.mono hsz))
      have hs1 := B1.size
      have HROW := Lib.hid ((hrow.below B1).more hs1)
      have HOK := Lib.hid (siteOk_at HO.out HX.out)
      clear hx hrow hP hQ hb B1 HQ1 hfe hv
      by_cases hv0 : 0 ≤ v
      · have HRET : Hid (ldRet (ldP p.val x y) = .tuple #[.int .i64 v, .bool true]) := by show _ = _; rw [HVV.out]; exact ldRet_yes hv0
        by_cases hgt : mm < v
        · have HTO : Hid (hvTo (hvF cs x y) (k + 1) = ((k : Int), v)) := by show _ = _; rw [hvTo_yes (by rw [HMM.out, HFE.out]; exact hgt), HFE.out]
          go_wp2_with fail
          rw [← hW1]
          clear hW1 c0 c1 c2 c3 c4 c5 c6
          refine (loadAtPlace_eq p x y _ lo HROW.out hpw.n HOK.out HPL.out HRET.out).mono ?_
          rintro e w3 ⟨rfl, hb3⟩
          have HP3 := Lib.hid (HP1.out.bel hb3)
          have HQ3 := Lib.hid (HQ.out.bel hb3)
          have HB3 := Lib.hid (HB1.out.trans (hb3.mono HB1.out.size))
          clear hb3 q0 q1
          go_wp2
          go_roundw
          case rel => exact ⟨k + 1, by omega, by go_num, by rw [HTO.out], by rw [HTO.out], HP3.out, HQ3.out, HB3.out⟩
          case measure => simp [intOf]; omega
        · have HTO : Hid (hvTo (hvF cs x y) (k + 1) = hvTo (hvF cs x y) k) := by show _ = _; rw [hvTo_no (by rw [HMM.out, HFE.out]; exact hgt)]
          go_wp2_with fail
          rw [← hW1]
          clear hW1 c0 c1 c2 c3 c4 c5 c6
          refine (loadAtPlace_eq p x y _ lo HROW.out hpw.n HOK.out HPL.out HRET.out).mono ?_
          rintro e w3 ⟨rfl, hb3⟩
          have HP3 := Lib.hid (HP1.out.bel hb3)
          have HQ3 := Lib.hid (HQ.out.bel hb3)
          have HB3 := Lib.hid (HB1.out.trans (hb3.mono HB1.out.size))
          clear hb3 q0 q1
          go_wp2
          go_roundw
          case rel => exact ⟨k + 1, by omega, by go_num, by rw [HTO.out, HBB.out], by rw [HTO.out, HMM.out], HP3.out, HQ3.out, HB3.out⟩
          case measure => simp [intOf]; omega
      · have HRET : Hid (ldRet (ldP p.val x y) = .tuple #[.int .i64 0, .bool false]) := by show _ = _; rw [HVV.out]; exact ldRet_no (by omega)
        have HTO : Hid (hvTo (hvF cs x y) (k + 1) = hvTo (hvF cs x y) k) := by show _ = _; rw [hvTo_no (by rw [HMM.out, HFE.out]; omega)]
        go_wp2_with fail
        rw [← hW1]
        clear hW1 c0 c1 c2 c3 c4 c5 c6
        refine (loadAtPlace_eq p x y _ lo HROW.out hpw.n HOK.out HPL.out HRET.out).mono ?_
        rintro e w3 ⟨rfl, hb3⟩
        have HP3 := Lib.hid (HP1.out.bel hb3)
        have HQ3 := Lib.hid (HQ.out.bel hb3)
        have HB3 := Lib.hid (HB1.out.trans (hb3.mono HB1.out.size))
        clear hb3 q0 q1
        go_wp2
        go_roundw
        case rel => exact ⟨k + 1, by omega, by go_num, by rw [HTO.out, HBB.out], by rw [HTO.out, HMM.out], HP3.out, HQ3.out, HB3.out⟩
        case measure => simp [intOf]; omega
    · obtain rfl : k = n := by omega
      have HE := Lib.hid (hv_end HBB.out HMM.out)
      have HB := Lib.hid hb
      by_cases hneg : bb < 0
      · go_wp2
        go_ret3
        obtain ⟨e1, e2, e3⟩ := HE.out.1 hneg
        exact ⟨by rw [e1, e2, e3]; rfl, HB.out⟩
      · go_wp2
        go_ret3
        obtain ⟨e1, e2, e3⟩ := HE.out.2 hneg
        exact ⟨by rw [e1, e2, e3]; rfl, HB.out⟩
end Go.Proofs.YtkegncanmfmmmaaDoor
/- XHv9: LoadAtPlace and RadiusBetween of the reference. -/
namespace Go.Proofs.YtkegncanmfmmmaaDoor
open Go.RowKit
set_option linter.unusedVariables false

theorem plcB_of {x y : Int} (h : Plc x y) : plcB x y = true := by
  unfold plcB
  rw [inB_true.2 h.1, inB_true.2 h.2]; rfl
set_option maxRecDepth 100000 in
set_option maxHeartbeats 1600000 in
theorem specLoadAtPlace_any (p : Crane) (x y : Int) (w : World) (lo : Nat) (hr : Arr ChartStep.cs 2 w lo w.heap.size p.r.a p.r.n p.r.xs) (hw : p.wf) (hok : craneOk p.val = true) (h2 : Plc x y) {a b : Int} (hv : (ldP p.val x y < 0 ∧ a = 0 ∧ b = 3) ∨ (0 ≤ ldP p.val x y ∧ a = ldP p.val x y ∧ b = 0)) :
    Calls Tryd.prog 11 #[.agg #[.string p.v.name, .int .i64 p.v.ax, .int .i64 p.v.ay, .int .i64 p.v.height, .int .i64 p.v.jib, .int .i64 p.v.back, .slice p.r.a p.r.n p.r.cap], .agg #[.int .i64 x, .int .i64 y]] w fun e w' => e = .returned (.tuple #[.int .i64 a, .int .i64 b]) ∧ RowKit.Below w.heap.size w w' := by
  obtain ⟨W, hW⟩ : ∃ W : World, W = (w.alloc (.cells #[.string p.v.name, .int .i64 p.v.ax, .int .i64 p.v.ay, .int .i64 p.v.height, .int .i64 p.v.jib, .int .i64 p.v.back, .slice p.r.a p.r.n p.r.cap] 38)).alloc (.cells #[.int .i64 x, .int .i64 y] 29) := ⟨_, rfl⟩
  have B0 : RowKit.Below w.heap.size w W := by rw [hW]; exact ((Below.refl _ _).alloc (Nat.le_refl _) _).alloc (by simp) _
  have P0 : Blk W w.heap.size 38 #[.string p.v.name, .int .i64 p.v.ax, .int .i64 p.v.ay, .int .i64 p.v.height, .int .i64 p.v.jib, .int .i64 p.v.back, .slice p.r.a p.r.n p.r.cap] := by rw [hW]; exact (Blk.new _ _ _).alloc _
  have Q0 : Blk W (w.heap.size + 1) 29 #[.int .i64 x, .int .i64 y] := by rw [hW]; exact Blk.new_at rfl (by simp)
  have hbl := P0.lt
  have hR0 := (hr.below B0).more B0.size
  have HR := Lib.hid hr
  have HPL := Lib.hid h2
  have HOK := Lib.hid hok
  obtain ⟨d0, d1, d2, d3, d4, d5, d6⟩ := Crane.blk P0
  clear hr h2 hok
  go_enter Tryd.func11, Tryd.ntmps11
  go_wp2_with fail
  rw [← hW]
  clear hW
  refine (l04Ok_any w.heap.size 0 p W lo hw.v.name hR0 hw.n hbl d0 d1 d2 d3 d4 d5 d6).mono ?_
  rintro e w1 ⟨rfl, hb1⟩
  rw [HOK.out]
  have HP1 := Lib.hid (P0.bel hb1)
  have Q1 := Q0.bel hb1
  have HB1 := Lib.hid (B0.trans (hb1.mono B0.size))
  have q0 : w1.cell? ⟨w.heap.size + 1, 0, none⟩ = some (.int .i64 x) := Q1.cell 0
  have q1 : w1.cell? ⟨w.heap.size + 1, 1, none⟩ = some (.int .i64 y) := Q1.cell 1
  clear d0 d1 d2 d3 d4 d5 d6 P0 Q0 B0 hb1 hR0
  go_wp2_with fail
  refine (l02Ok_any x y _).mono ?_
  rintro e w2 ⟨rfl, hb2⟩
  rw [plcB_of HPL.out]
  have HP2 := HP1.out.bel hb2
  have HQ2 := Q1.bel hb2
  have HB2 := Lib.hid (HB1.out.trans (hb2.mono HB1.out.size))
  obtain ⟨d0, d1, d2, d3, d4, d5, d6⟩ := Crane.blk HP2
  have hbl2 := HP2.lt
  clear q0 q1 Q1 hb2
  have q0 : w2.cell? ⟨w.heap.size + 1, 0, none⟩ = some (.int .i64 x) := HQ2.cell 0
  have q1 : w2.cell? ⟨w.heap.size + 1, 1, none⟩ = some (.int .i64 y) := HQ2.cell 1
  go_wp2_with fail
  refine (l04Load_any w.heap.size 0 p x y w2 lo ((HR.out.below HB2.out).more HB2.out.size) hw.n HOK.out HPL.out hbl2 d1 d2 d6).mono ?_
  rintro e w3 ⟨rfl, hb3⟩
  have HB3 := Lib.hid (HB2.out.trans (hb3.mono HB2.out.size))
  clear d0 d1 d2 d3 d4 d5 d6 q0 q1 HQ2 HP2 hb3
  obtain ⟨v, hvv⟩ : ∃ v, ldP p.val x y = v := ⟨_, rfl⟩
  rw [hvv] at hv ⊢
  clear hvv
  rcases hv with ⟨h1, rfl, rfl⟩ | ⟨h1, rfl, rfl⟩
  · go_wp2
    go_ret2
    exact ⟨rfl, HB3.out⟩
  · go_wp2
    go_ret2
    exact ⟨rfl, HB3.out⟩
set_option maxRecDepth 100000 in
set_option maxHeartbeats 1600000 in
theorem specRadiusBetween_any (ax ay x y : Int) (w : World) (h1 : Plc ax ay) (h2 : Plc x y) :
    Calls Tryd.prog 14 #[.agg #[.int .i64 ax, .int .i64 ay], .agg #[.int .i64 x, .int .i64 y]] w fun e w' => e = .returned (.tuple #[.int .i64 (rt (sqD ax ay x y)), .int .i64 0]) ∧ RowKit.Below w.heap.size w w' := by
  obtain ⟨W, hW⟩ : ∃ W : World, W = (w.alloc (.cells #[.int .i64 ax, .int .i64 ay] 29)).alloc (.cells #[.int .i64 x, .int .i64 y] 29) := ⟨_, rfl⟩
  have B0 : RowKit.Below w.heap.size w W := by rw [hW]; exact ((Below.refl _ _).alloc (Nat.le_refl _) _).alloc (by simp) _
  have P0 : Blk W w.heap.size 29 #[.int .i64 ax, .int .i64 ay] := by rw [hW]; exact (Blk.new _ _ _).alloc _
  have Q0 : Blk W (w.heap.size + 1) 29 #[.int .i64 x, .int .i64 y] := by rw [hW]; exact Blk.new_at rfl (by simp)
  have HPA := Lib.hid h1
  have HPL := Lib.hid h2
  have hs := sqD_bd h1 h2
  have p0 : W.cell? ⟨w.heap.size, 0, none⟩ = some (.int .i64 ax) := P0.cell 0
  have p1 : W.cell? ⟨w.heap.size, 1, none⟩ = some (.int .i64 ay) := P0.cell 1
  clear h1 h2
  go_enter Tryd.func14, Tryd.ntmps14
  go_wp2_with fail
  rw [← hW]
  clear hW
  refine (l02Ok_any ax ay _).mono ?_
  rintro e w1 ⟨rfl, hb1⟩
  rw [plcB_of HPA.out]
  have P1 := P0.bel hb1
  have Q1 := Q0.bel hb1
  have HB1 := Lib.hid (B0.trans (hb1.mono B0.size))
  have q0 : w1.cell? ⟨w.heap.size + 1, 0, none⟩ = some (.int .i64 x) := Q1.cell 0
  have q1 : w1.cell? ⟨w.heap.size + 1, 1, none⟩ = some (.int .i64 y) := Q1.cell 1
  clear P0 Q0 B0 hb1 p0 p1
  go_wp2_with fail
  refine (l02Ok_any x y _).mono ?_
  rintro e w2 ⟨rfl, hb2⟩
  rw [plcB_of HPL.out]
  have P2 := P1.bel hb2
  have Q2 := Q1.bel hb2
  have HB2 := Lib.hid (HB1.out.trans (hb2.mono HB1.out.size))
  clear q0 q1 P1 Q1 hb2
  have p0 : w2.cell? ⟨w.heap.size, 0, none⟩ = some (.int .i64 ax) := P2.cell 0
  have p1 : w2.cell? ⟨w.heap.size, 1, none⟩ = some (.int .i64 ay) := P2.cell 1
  have q0 : w2.cell? ⟨w.heap.size + 1, 0, none⟩ = some (.int .i64 x) := Q2.cell 0
  have q1 : w2.cell? ⟨w.heap.size + 1, 1, none⟩ = some (.int .i64 y) := Q2.cell 1
  go_wp2_with fail
  refine (l02Square_any ax ay x y HPA.out HPL.out w2).mono ?_
  rintro e w3 ⟨rfl, hb3⟩
  have HB3 := Lib.hid (HB2.out.trans (hb3.mono HB2.out.size))
  clear hb3 p0 p1 q0 q1 P2 Q2
  go_wp2_with fail
  refine (l02Root_any _ hs.1 (by omega) _).mono ?_
  rintro e w4 ⟨rfl, rfl⟩
  go_wp2
  go_ret2
  exact ⟨rfl, HB3.out⟩
end Go.Proofs.YtkegncanmfmmmaaDoor
