/- l19Acts of the reference: the acts that are possible in a valid world. -/
import Derived.Test.YtomifedaiabapaaActsLaw
import Derived.Test.YtomifedaiabapaaSpecCan
import Derived.Test.YtomifedaiabapaaGrow2
namespace Go.Proofs.Ytomifedaiabapaa
open Go.RowKit
set_option linter.unusedVariables false

set_option maxRecDepth 100000 in
set_option maxHeartbeats 3200000 in
theorem l19Acts_any (A : Option Addr) (n c : Nat) (rs : List (Row Bool)) (mn : Nat) (lost : Int) (an bn sn tn : Nat) (ga gb : Int) (hmn : mn < 4) (han : an < 24) (hbn : bn < 24) (hsn : sn < 24) (htn : tn < 24) (w : World) (lo : Nat) (h : Arr2 bc 1 w lo w.heap.size A n rs) (ht : tabOk rs = true) :
    Calls Try.prog 59 #[.slice A n c, .agg #[.int .i64 (mn : Int), .int .i64 lost], .agg #[.int .i64 (an : Int), .int .i64 (bn : Int), .int .i64 (sn : Int), .int .i64 (tn : Int), .int .i64 ga, .int .i64 gb]] w (Acts (actsTo (canN rs mn lost an bn sn tn ga gb) 36) w) := by
  obtain ⟨can, hcan⟩ : ∃ f, canN rs mn lost an bn sn tn ga gb = f := ⟨_, rfl⟩
  rw [hcan]
  obtain ⟨W, hW⟩ : ∃ W : World, W = (w.alloc (.cells #[.int .i64 (mn : Int), .int .i64 lost] 32)).alloc (.cells #[.int .i64 (an : Int), .int .i64 (bn : Int), .int .i64 (sn : Int), .int .i64 (tn : Int), .int .i64 ga, .int .i64 gb] 34) := ⟨_, rfl⟩
  have hbW : Below w.heap.size w W := by rw [hW]; exact ((Below.refl _ _).alloc (Nat.le_refl _) _).alloc (by simp) _
  have hvp : VP W w.heap.size ⟨mn, lost⟩ ⟨an, bn, sn, tn, ga, gb⟩ := by rw [hW]; exact VP.new w ⟨mn, lost⟩ ⟨an, bn, sn, tn, ga, gb⟩
  have hsW : W.heap.size = w.heap.size + 2 := by rw [hW]; simp
  have hG0 : Grow Dact.cs 4 (W.alloc (.cells #[] 115)) W.heap.size 115 (.slice (some ⟨W.heap.size, 0, none⟩) 0 0) [] := Grow.empty _ _ _ (Nat.le_refl _)
  have hb0 : Below W.heap.size W (W.alloc (.cells #[] 115)) := (Below.refl _ _).alloc (Nat.le_refl _) _
  have HVP := Lib.hid (hvp.bel hb0)
  have HG0 := Lib.hid hG0
  have HB0 := Lib.hid (hbW.trans (hb0.mono (by omega)))
  have HA := Lib.hid h
  have HCAN := Lib.hid hcan
  clear hvp hG0 hb0 hbW h hcan
  obtain ⟨W0, hW0⟩ : ∃ W0 : World, W0 = W.alloc (.cells #[] 115) := ⟨_, rfl⟩
  rw [← hW0] at HVP HG0 HB0
  have hW0s : W0.heap.size = w.heap.size + 3 := by rw [hW0]; simp; omega
  rw [hsW] at HG0
  rw [hW] at hW0
  clear hsW hW
  go_enter Try.func59, Try.ntmps59
  go_wp2_with fail
  try rw [← hW0]
  go_loopw [7, 8] (fun v kv wr => ∃ k : Nat, k ≤ 36 ∧ kv = .int .i64 k ∧ Grow Dact.cs 4 wr (w.heap.size + 2) 115 v (actsTo can k) ∧ VP wr w.heap.size ⟨mn, lost⟩ ⟨an, bn, sn, tn, ga, gb⟩ ∧ Below w.heap.size w wr ∧ w.heap.size + 3 ≤ wr.heap.size) (fun _ kv _ => 36 - (intOf kv).toNat)
  case atStart => exact ⟨0, Nat.zero_le _, rfl, HG0.out, HVP.out, HB0.out, by omega⟩
  case round =>
    obtain ⟨k, hk, rfl, hgr, hvp, hbw, hzr⟩ := hrel
    clear HVP HG0 HB0
    by_cases hlt : k < 36
    · have hr := act_range hlt
      have hlen := actsTo_len (can := can) k
      have hk1 : (k : Int) < 36 := by omega
      have hk0 : (0 : Int) ≤ (k : Int) := by omega
      obtain ⟨W1, hW1⟩ : ∃ W1 : World, W1 = wr.alloc (.cells #[.int .i64 ((k : Int) / 12 - 1), .int .i64 ((k : Int) / 4 % 3 - 1), .bool ((k : Int) / 2 % 2 == 1), .bool ((k : Int) % 2 == 1)] 115) := ⟨_, rfl⟩
      have hb1 : Below wr.heap.size wr W1 := by rw [hW1]; exact (Below.refl _ _).alloc (Nat.le_refl _) _
      have hX1 : Blk W1 wr.heap.size 115 #[.int .i64 ((k : Int) / 12 - 1), .int .i64 ((k : Int) / 4 % 3 - 1), .bool ((k : Int) / 2 % 2 == 1), .bool ((k : Int) % 2 == 1)] := by rw [hW1]; exact Blk.new _ _ _
      have hz1 : W1.heap.size = wr.heap.size + 1 := by rw [hW1]; simp
      have hv1 := hvp.bel hb1
      have hB1 := hbw.trans (hb1.mono (by omega))
      have hA1 := (HA.out.below hB1).more hB1.size
      have HX1 := Lib.hid hX1
      have HV1 := Lib.hid hv1
      have HB1 := Lib.hid hB1
      have HG1 := Lib.hid (hgr.bel hb1)
      have HA1 := Lib.hid hA1
      obtain ⟨x0, x1, y0, y1, y2, y3, y4, y5⟩ := hv1.cells
      have z0 : W1.cell? ⟨wr.heap.size, 0, none⟩ = some (.int .i64 ((k : Int) / 12 - 1)) := hX1.cell 0
      have z1 : W1.cell? ⟨wr.heap.size, 1, none⟩ = some (.int .i64 ((k : Int) / 4 % 3 - 1)) := hX1.cell 1
      have z2 : W1.cell? ⟨wr.heap.size, 2, none⟩ = some (.bool ((k : Int) / 2 % 2 == 1)) := hX1.cell 2
      have z3 : W1.cell? ⟨wr.heap.size, 3, none⟩ = some (.bool ((k : Int) % 2 == 1)) := hX1.cell 3
      rw [hW1] at x0 x1 y0 y1 y2 y3 y4 y5 z0 z1 z2 z3
      clear hX1 hv1 hB1 hA1 hgr hvp hbw hb1
      go_wp2_with fail
      rw [← hW1]
      rw [← hW1] at x0 x1 y0 y1 y2 y3 y4 y5 z0 z1 z2 z3
      clear hW1
      refine (l19Can_any A n c rs mn lost an bn sn tn ga gb _ _ _ _ hmn han hbn hsn htn hr.1 hr.2 W1 lo HA1.out ht).mono ?_
      rintro e w2 ⟨rfl, hb2⟩
      clear x0 x1 y0 y1 y2 y3 y4 y5 z0 z1 z2 z3
      have hX2 := HX1.out.bel hb2
      have z0 : w2.cell? ⟨wr.heap.size, 0, none⟩ = some (.int .i64 ((k : Int) / 12 - 1)) := hX2.cell 0
      have z1 : w2.cell? ⟨wr.heap.size, 1, none⟩ = some (.int .i64 ((k : Int) / 4 % 3 - 1)) := hX2.cell 1
      have z2 : w2.cell? ⟨wr.heap.size, 2, none⟩ = some (.bool ((k : Int) / 2 % 2 == 1)) := hX2.cell 2
      have z3 : w2.cell? ⟨wr.heap.size, 3, none⟩ = some (.bool ((k : Int) % 2 == 1)) := hX2.cell 3
      have hz2 := hb2.size
      have HV2 := Lib.hid (HV1.out.bel hb2)
      have HG2 := Lib.hid (HG1.out.bel hb2)
      have HB2 := Lib.hid (HB1.out.trans (hb2.mono (by omega)))
      have hlt2 : wr.heap.size < w2.heap.size := by omega
      clear hX2 hb2
      rw [HCAN.out]
      rw [show (⟨(k : Int) / 12 - 1, (k : Int) / 4 % 3 - 1, (k : Int) / 2 % 2 == 1, (k : Int) % 2 == 1⟩ : Dact) = act k from rfl]
      cases hc : can (act k)
      · go_wp2
        go_roundw
        case rel => exact ⟨k + 1, by omega, by go_num, by rw [actsTo_no hc]; exact HG2.out, HV2.out, HB2.out, by omega⟩
        case measure => simp [intOf]; omega
      · obtain ⟨W3, hW3⟩ : ∃ W3 : World, W3 = w2.alloc (.cells #[.int .i64 ((k : Int) / 12 - 1), .int .i64 ((k : Int) / 4 % 3 - 1), .bool ((k : Int) / 2 % 2 == 1), .bool ((k : Int) % 2 == 1)] 115) := ⟨_, rfl⟩
        have hb3 : Below w2.heap.size w2 W3 := by rw [hW3]; exact (Below.refl _ _).alloc (Nat.le_refl _) _
        have hz3 := hb3.size
        have HW3 := Lib.hid hW3
        have HV3 := Lib.hid (HV2.out.bel hb3)
        have HG3 := Lib.hid (HG2.out.bel hb3)
        have HB3 := Lib.hid (HB2.out.trans (hb3.mono (by omega)))
        clear hW3 hb3
        go_wp2_with (at_builtin; rw [← HW3.out]; refine wpList_snoc _ rfl _ _ 28 rfl (w.heap.size + 2) 115 _ _ Try.underlying28 DactInfo rfl (by omega) _ (actsTo can k) (act k) rfl HG3.out _ _ rfl (by rw [HW3.out]; exact heap_new_at _ _ (by simp)) rfl rfl (Dact.cs_one _) (by omega) (by omega) (by omega) ?_; intro v' w5 hg5 hgr5)
        have hz5 := hgr5.size
        have HV5 := Lib.hid (HV3.out.grown hgr5 (fun u e9 => by have := HG3.out.lt u e9; omega))
        have HB5 := Lib.hid (HG3.out.below HB3.out hgr5 (by omega) (by omega))
        have HG5 := Lib.hid hg5
        clear hg5 hgr5
        go_roundw
        case rel => exact ⟨k + 1, by omega, by go_num, by rw [actsTo_yes hc]; exact HG5.out, HV5.out, HB5.out, by omega⟩
        case measure => simp [intOf]; omega
    · obtain rfl : k = 36 := by omega
      have HF := Lib.hid hgr
      clear hgr hvp
      go_wp2
      go_ret
      exact ⟨_, rfl, ⟨HF.out.1, by
        rcases HF.out.2 with h1 | ⟨g, cap, cur, r1, r2, r3⟩
        · exact .inl h1
        · exact .inr ⟨g, cap, cur, r1, by omega, r3⟩⟩, hbw⟩
end Go.Proofs.Ytomifedaiabapaa
