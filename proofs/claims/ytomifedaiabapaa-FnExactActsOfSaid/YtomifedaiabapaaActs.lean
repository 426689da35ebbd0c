/- (World).acts: the acts that are possible in a valid world. -/
import Derived.Test.YtomifedaiabapaaActsLaw
import Derived.Test.YtomifedaiabapaaCan
import Derived.Test.YtomifedaiabapaaGrow2
namespace Go.Proofs.Ytomifedaiabapaa
open Go.RowKit
set_option linter.unusedVariables false

/-- a world and a watch that a call has boxed -/
structure PV (W : World) (q : Nat) (v : Watch) (p : Wld) : Prop where
  p : Blk W q 34 #[.int .i64 p.a, .int .i64 p.b, .int .i64 p.sa, .int .i64 p.sb, .int .i64 p.ga, .int .i64 p.gb]
  v : Blk W (q + 1) 32 #[.int .i64 v.margin, .int .i64 v.lost]
theorem PV.bel {W W' : World} {q : Nat} {v : Watch} {p : Wld} (h : PV W q v p) (hb : Below W.heap.size W W') : PV W' q v p := ⟨h.1.bel hb, h.2.bel hb⟩
theorem PV.cells {W : World} {q : Nat} {v : Watch} {p : Wld} (h : PV W q v p) : W.cell? ⟨q + 1, 0, none⟩ = some (.int .i64 v.margin) ∧ W.cell? ⟨q + 1, 1, none⟩ = some (.int .i64 v.lost) ∧ W.cell? ⟨q, 0, none⟩ = some (.int .i64 p.a) ∧ W.cell? ⟨q, 1, none⟩ = some (.int .i64 p.b) ∧ W.cell? ⟨q, 2, none⟩ = some (.int .i64 p.sa) ∧ W.cell? ⟨q, 3, none⟩ = some (.int .i64 p.sb) ∧ W.cell? ⟨q, 4, none⟩ = some (.int .i64 p.ga) ∧ W.cell? ⟨q, 5, none⟩ = some (.int .i64 p.gb) :=
  ⟨h.2.cell 0, h.2.cell 1, h.1.cell 0, h.1.cell 1, h.1.cell 2, h.1.cell 3, h.1.cell 4, h.1.cell 5⟩
theorem PV.new (w : World) (v : Watch) (p : Wld) : PV ((w.alloc (.cells #[.int .i64 p.a, .int .i64 p.b, .int .i64 p.sa, .int .i64 p.sb, .int .i64 p.ga, .int .i64 p.gb] 34)).alloc (.cells #[.int .i64 v.margin, .int .i64 v.lost] 32)) w.heap.size v p :=
  ⟨(Blk.new _ _ _).alloc _, Blk.new_at rfl (by simp)⟩
theorem PV.grown {W W' : World} {q : Nat} {v : Watch} {p : Wld} (h : PV W q v p) {row : Option Nat} (hg : W.grownBy W' row) (hr : ∀ k, row = some k → q + 1 < k) : PV W' q v p :=
  ⟨(hg.block q h.1.lt (fun e => by have := hr q e.symm; omega)).trans h.1, (hg.block (q + 1) h.2.lt (fun e => by have := hr _ e.symm; omega)).trans h.2⟩
set_option maxRecDepth 100000 in
set_option maxHeartbeats 6400000 in
theorem acts_any (A : Option Addr) (n c : Nat) (rs : List (Row Bool)) (mn : Nat) (lost : Int) (an bn sn tn : Nat) (ga gb : Int) (hmn : mn < 4) (han : an < 24) (hbn : bn < 24) (hsn : sn < 24) (htn : tn < 24) (w : World) (lo : Nat) (h : Arr2 bc 1 w lo w.heap.size A n rs) (ht : tabOk rs = true) :
    Calls Try.prog 62 #[.agg #[.int .i64 (an : Int), .int .i64 (bn : Int), .int .i64 (sn : Int), .int .i64 (tn : Int), .int .i64 ga, .int .i64 gb], .slice A n c, .agg #[.int .i64 (mn : Int), .int .i64 lost]] w (Acts (actsTo (canN rs mn lost an bn sn tn ga gb) 36) w) := by
  obtain ⟨can, hcan⟩ : ∃ f, canN rs mn lost an bn sn tn ga gb = f := ⟨_, rfl⟩
  rw [hcan]
  obtain ⟨G, hGq⟩ : ∃ G, w.heap.size = G := ⟨_, rfl⟩
  obtain ⟨W, hW⟩ : ∃ W : World, W = (w.alloc (.cells #[.int .i64 (an : Int), .int .i64 (bn : Int), .int .i64 (sn : Int), .int .i64 (tn : Int), .int .i64 ga, .int .i64 gb] 34)).alloc (.cells #[.int .i64 (mn : Int), .int .i64 lost] 32) := ⟨_, rfl⟩
  have hbW : Below w.heap.size w W := by rw [hW]; exact ((Below.refl _ _).alloc (Nat.le_refl _) _).alloc (by simp) _
  have hvp : PV W w.heap.size ⟨mn, lost⟩ ⟨an, bn, sn, tn, ga, gb⟩ := by rw [hW]; exact PV.new w ⟨mn, lost⟩ ⟨an, bn, sn, tn, ga, gb⟩
  have hsW : W.heap.size = G + 2 := by rw [hW, ← hGq]; simp
  have HVP := Lib.hid hvp
  have HB0 := Lib.hid hbW
  have HA := Lib.hid h
  have HCAN := Lib.hid hcan
  have HGQ := Lib.hid hGq
  clear hvp hbW h hcan
  go_enter Try.func62, Try.ntmps62
  go_wp2_with fail
  try rw [← hW]
  clear hW
  rw [hGq] at HVP HB0
  try rw [hGq]
  go_loopw [7, 8] (fun v av wr => ∃ i : Nat, i ≤ 3 ∧ av = .int .i64 ((i : Int) - 1) ∧ Grow Dact.cs 4 wr (G + 2) 115 v (actsTo can (12 * i)) ∧ PV wr G ⟨mn, lost⟩ ⟨an, bn, sn, tn, ga, gb⟩ ∧ Below G w wr ∧ G + 2 ≤ wr.heap.size) (fun _ av _ => (2 - intOf av).toNat)
  case atStart => exact ⟨0, Nat.zero_le _, rfl, Grow.nil _ _ _, HVP.out, HB0.out, by omega⟩
  case round =>
    obtain ⟨i, hi, rfl, hgr, hvp, hbw, hzr⟩ := hrel
    clear HVP HB0
    by_cases hlt : i < 3
    · have hi1 : (i : Int) - 1 ≤ 1 := by omega
      have HG := Lib.hid hgr
      have HV := Lib.hid hvp
      have HB := Lib.hid hbw
      clear hgr hvp hbw
      go_wp2_with fail
      go_loopw [7, 9] (fun v bv wr => ∃ j : Nat, j ≤ 3 ∧ bv = .int .i64 ((j : Int) - 1) ∧ Grow Dact.cs 4 wr (G + 2) 115 v (actsTo can (12 * i + 4 * j)) ∧ PV wr G ⟨mn, lost⟩ ⟨an, bn, sn, tn, ga, gb⟩ ∧ Below G w wr ∧ G + 2 ≤ wr.heap.size) (fun _ bv _ => (2 - intOf bv).toNat)
      case atStart => exact ⟨0, Nat.zero_le _, rfl, HG.out, HV.out, HB.out, by omega⟩
      case round =>
        obtain ⟨j, hj, rfl, hgr, hvp, hbw, hzr2⟩ := hrel
        clear HG HV HB
        by_cases hlt2 : j < 3
        · have hj1 : (j : Int) - 1 ≤ 1 := by omega
          have HG := Lib.hid hgr
          have HV := Lib.hid hvp
          have HB := Lib.hid hbw
          clear hgr hvp hbw
          go_wp2_with fail
          go_loopw [7, 20] (fun v cv wr => ∃ l : Nat, l ≤ 4 ∧ cv = .int .i64 l ∧ Grow Dact.cs 4 wr (G + 2) 115 v (actsTo can (12 * i + 4 * j + l)) ∧ PV wr G ⟨mn, lost⟩ ⟨an, bn, sn, tn, ga, gb⟩ ∧ Below G w wr ∧ G + 2 ≤ wr.heap.size) (fun _ cv _ => 4 - (intOf cv).toNat)
          case atStart => exact ⟨0, Nat.zero_le _, rfl, HG.out, HV.out, HB.out, by omega⟩
          case round =>
            obtain ⟨l, hl, rfl, hgr, hvp, hbw, hzr3⟩ := hrel
            clear HG HV HB
            by_cases hlt3 : l < 4
            · have hal := act_ijl hlt hlt2 hlt3
              obtain ⟨k, hkq⟩ : ∃ k, 12 * i + 4 * j + l = k := ⟨_, rfl⟩
              have hk36 : k < 36 := by omega
              rw [hkq] at hgr hal
              have HK := Lib.hid hkq
              clear hkq
              have hlen := actsTo_len (can := can) k
              have hk1 : (l : Int) < 4 := by omega
              have hk0 : (0 : Int) ≤ (l : Int) := by omega
              obtain ⟨W1, hW1⟩ : ∃ W1 : World, W1 = wr.alloc (.cells #[.int .i64 ((i : Int) - 1), .int .i64 ((j : Int) - 1), .bool (decide (2 ≤ (l : Int))), .bool ((l : Int) % 2 == 1)] 115) := ⟨_, rfl⟩
              have hb1 : Below wr.heap.size wr W1 := by rw [hW1]; exact (Below.refl _ _).alloc (Nat.le_refl _) _
              have hX1 : Blk W1 wr.heap.size 115 #[.int .i64 ((i : Int) - 1), .int .i64 ((j : Int) - 1), .bool (decide (2 ≤ (l : Int))), .bool ((l : Int) % 2 == 1)] := by rw [hW1]; exact Blk.new _ _ _
              have hz1 : W1.heap.size = wr.heap.size + 1 := by rw [hW1]; simp
              have hv1 := hvp.bel hb1
              have hB1 := hbw.trans (hb1.mono (by omega))
              have hA1 := (HA.out.below (by rw [HGQ.out]; exact hB1)).more hB1.size
              have HX1 := Lib.hid hX1
              have HV1 := Lib.hid hv1
              have HB1 := Lib.hid hB1
              have HG1 := Lib.hid (hgr.bel hb1)
              have HA1 := Lib.hid hA1
              obtain ⟨x0, x1, y0, y1, y2, y3, y4, y5⟩ := hv1.cells
              have z0 : W1.cell? ⟨wr.heap.size, 0, none⟩ = some (.int .i64 ((i : Int) - 1)) := hX1.cell 0
              have z1 : W1.cell? ⟨wr.heap.size, 1, none⟩ = some (.int .i64 ((j : Int) - 1)) := hX1.cell 1
              have z2 : W1.cell? ⟨wr.heap.size, 2, none⟩ = some (.bool (decide (2 ≤ (l : Int)))) := hX1.cell 2
              have z3 : W1.cell? ⟨wr.heap.size, 3, none⟩ = some (.bool ((l : Int) % 2 == 1)) := hX1.cell 3
              rw [hW1] at x0 x1 y0 y1 y2 y3 y4 y5 z0 z1 z2 z3
              clear hX1 hv1 hB1 hA1 hgr hvp hbw hb1
              go_wp2_with fail
              rw [← hW1]
              rw [← hW1] at x0 x1 y0 y1 y2 y3 y4 y5 z0 z1 z2 z3
              clear hW1
              refine (possible_any A n c rs mn lost an bn sn tn ga gb _ _ _ _ hmn han hbn hsn htn (by omega) (by omega) W1 lo HA1.out ht).mono ?_
              rintro e w2 ⟨rfl, hb2⟩
              clear x0 x1 y0 y1 y2 y3 y4 y5 z0 z1 z2 z3
              have hX2 := HX1.out.bel hb2
              have z0 : w2.cell? ⟨wr.heap.size, 0, none⟩ = some (.int .i64 ((i : Int) - 1)) := hX2.cell 0
              have z1 : w2.cell? ⟨wr.heap.size, 1, none⟩ = some (.int .i64 ((j : Int) - 1)) := hX2.cell 1
              have z2 : w2.cell? ⟨wr.heap.size, 2, none⟩ = some (.bool (decide (2 ≤ (l : Int)))) := hX2.cell 2
              have z3 : w2.cell? ⟨wr.heap.size, 3, none⟩ = some (.bool ((l : Int) % 2 == 1)) := hX2.cell 3
              have hz2 := hb2.size
              have HV2 := Lib.hid (HV1.out.bel hb2)
              have HG2 := Lib.hid (HG1.out.bel hb2)
              have HB2 := Lib.hid (HB1.out.trans (hb2.mono (by omega)))
              have hlt2 : wr.heap.size < w2.heap.size := by omega
              clear hX2 hb2
              rw [HCAN.out]
              rw [← hal]
              cases hc : can (act k)
              · go_wp2
                go_roundw
                case rel => exact ⟨l + 1, by omega, by go_num, by rw [← Nat.add_assoc, HK.out, actsTo_no hc]; exact HG2.out, HV2.out, HB2.out, by omega⟩
                case measure => simp [intOf]; omega
              · obtain ⟨W3, hW3⟩ : ∃ W3 : World, W3 = w2.alloc (.cells #[.int .i64 ((i : Int) - 1), .int .i64 ((j : Int) - 1), .bool (decide (2 ≤ (l : Int))), .bool ((l : Int) % 2 == 1)] 115) := ⟨_, rfl⟩
                have hb3 : Below w2.heap.size w2 W3 := by rw [hW3]; exact (Below.refl _ _).alloc (Nat.le_refl _) _
                have hz3 := hb3.size
                have HW3 := Lib.hid hW3
                have HV3 := Lib.hid (HV2.out.bel hb3)
                have HG3 := Lib.hid (HG2.out.bel hb3)
                have HB3 := Lib.hid (HB2.out.trans (hb3.mono (by omega)))
                clear hW3 hb3
                go_wp2_with (at_builtin; rw [← HW3.out]; refine wpList_snoc _ rfl _ _ 28 rfl (G + 2) 115 _ _ Try.underlying28 DactInfo rfl (by omega) _ (actsTo can k) (act k) rfl HG3.out _ _ rfl (by rw [HW3.out]; exact heap_new_at _ _ (by simp)) (by rw [hal]; rfl) rfl (Dact.cs_one _) (by omega) (by omega) (by omega) ?_; intro v' w5 hg5 hgr5)
                have hz5 := hgr5.size
                have HV5 := Lib.hid (HV3.out.grown hgr5 (fun u e9 => by have := HG3.out.lt u e9; omega))
                have HB5 := Lib.hid (HG3.out.below HB3.out hgr5 (by omega) (by omega))
                have HG5 := Lib.hid hg5
                clear hg5 hgr5
                go_roundw
                case rel => exact ⟨l + 1, by omega, by go_num, by rw [← Nat.add_assoc, HK.out, actsTo_yes hc]; exact HG5.out, HV5.out, HB5.out, by omega⟩
                case measure => simp [intOf]; omega
            · obtain rfl : l = 4 := by omega
              have HG := Lib.hid hgr
              have HV := Lib.hid hvp
              have HB := Lib.hid hbw
              clear hgr hvp hbw
              go_wp2
              go_roundw
              case rel => exact ⟨j + 1, by omega, by go_num, HG.out, HV.out, HB.out, by omega⟩
              case measure => simp [intOf]; omega
        · obtain rfl : j = 3 := by omega
          have HG := Lib.hid hgr
          have HV := Lib.hid hvp
          have HB := Lib.hid hbw
          clear hgr hvp hbw
          go_wp2
          go_roundw
          case rel => exact ⟨i + 1, by omega, by go_num, HG.out, HV.out, HB.out, by omega⟩
          case measure => simp [intOf]; omega
    · obtain rfl : i = 3 := by omega
      have HF := Lib.hid hgr
      have HB := Lib.hid hbw
      clear hgr hvp hbw
      go_wp2
      go_ret
      refine ⟨_, rfl, ⟨HF.out.1, ?_⟩, by rw [HGQ.out]; exact HB.out⟩
      rcases HF.out.2 with h1 | ⟨g, cap, cur, r1, r2, r3⟩
      · exact .inl h1
      · exact .inr ⟨g, cap, cur, r1, by rw [HGQ.out]; omega, r3⟩
end Go.Proofs.Ytomifedaiabapaa
