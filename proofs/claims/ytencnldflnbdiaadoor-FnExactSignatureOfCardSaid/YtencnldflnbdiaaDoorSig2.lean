/- SignatureOf of the program and of the reference: sgVal and sgCode. -/
import Derived.Test.YtencnldflnbdiaaDoorSig
namespace Go.Proofs.YtencnldflnbdiaaDoor
open Go.RowKit Go.Sort
set_option linter.unusedVariables false

structure SgIn (key before : Int) (p : Entry) : Prop where
  k : 1 ≤ key ∧ key ≤ 65520
  b : 0 ≤ before ∧ before ≤ 65520
  s : 0 ≤ p.second ∧ p.second ≤ 1000000
  who : p.who.size ≤ 12
  what : p.what.size ≤ 50
theorem sgIn_of {key before : Int} {p : Entry} (h : enOk p = true) (h2 : sgOk key before = true) : SgIn key before p := by
  unfold enOk at h
  unfold sgOk at h2
  rw [Bool.and_eq_true, Bool.and_eq_true, Bool.and_eq_true] at h
  rw [Bool.and_eq_true] at h2
  have hn := h.2.1
  unfold nmOk at hn
  rw [Bool.and_eq_true, Bool.and_eq_true, decide_eq_true_eq, decide_eq_true_eq] at hn
  have hl := h.2.2.2
  unfold lenB at hl
  rw [Bool.and_eq_true, decide_eq_true_eq, decide_eq_true_eq] at hl
  exact ⟨inB_true.1 h2.1, inB_true.1 h2.2, inB_true.1 h.1, hn.2.2, by omega⟩
theorem decS_size7 (n : Int) (h0 : -9223372036854775808 ≤ n) (h1 : n ≤ 9223372036854775807) : (decS n).size ≤ 21 := Lib.itoa_length_le n h0 h1
theorem txt_size {key before : Int} {p : Entry} (h : SgIn key before p) : (txt p).size ≤ 83 := by
  have := decS_size7 p.second (by have := h.s; omega) (by have := h.s; omega)
  have := h.who
  have := h.what
  unfold txt
  rw [ByteArray.size_append, ByteArray.size_append]
  omega
set_option maxRecDepth 100000 in
set_option maxHeartbeats 1600000 in
theorem signature_any (key before : Int) (p : Entry) (w : World) (hi : SgIn key before p) (ht : TabW w) :
    Calls Tryd.prog 88 #[.agg #[.int .i64 p.second, .string p.who, .string p.what], .int .i64 key, .int .i64 before] w fun e w' => e = .returned (.int .i64 (sgV key before p)) ∧ Below w.heap.size w w' := by
  obtain ⟨W, hW⟩ : ∃ W : World, W = w.alloc (.cells #[.int .i64 p.second, .string p.who, .string p.what] 65) := ⟨_, rfl⟩
  have B0 : Below w.heap.size w W := by rw [hW]; exact (Below.refl _ _).alloc (Nat.le_refl _) _
  have P0 : Blk W w.heap.size 65 #[.int .i64 p.second, .string p.who, .string p.what] := by rw [hW]; exact Blk.new _ _ _
  have e0 := cell_regrown ((P0.cell 0).trans rfl : W.cell? ⟨w.heap.size, 0, none⟩ = some (.int .i64 p.second))
  have e1 := cell_regrown ((P0.cell 1).trans rfl : W.cell? ⟨w.heap.size, 1, none⟩ = some (.string p.who))
  have e2 := cell_regrown ((P0.cell 2).trans rfl : W.cell? ⟨w.heap.size, 2, none⟩ = some (.string p.what))
  have HB0 := Lib.hid B0
  have HSZ := Lib.hid (txt_size hi)
  have HBD := Lib.hid (fun k => sgTo_bd hi.k hi.b (txt p) k)
  have HV : Hid (sgV key before p = (sgTo key before (txt p) (txt p).size + key * key) % 65521) := rfl
  have HZ : Hid (sgTo key before (txt p) 0 = (before + 11 * key) % 65521) := rfl
  have HS1 : Hid (∀ k, sgTo key before (txt p) (k + 1) = (41 * sgTo key before (txt p) k + PlainAid.bt (txt p) k) % 65521) := fun k => rfl
  have HTX : Hid (txt p = decS p.second ++ p.who ++ p.what) := rfl
  have HDC := Lib.hid (fun d os => decimal_any p.second (by have := hi.s; omega) (by have := hi.s; omega) (grow (redrawn W d) os) (ht.bel (B0.trans ((below_regrown W d os).mono B0.size))))
  have s1 := decS_size7 p.second (by have := hi.s; omega) (by have := hi.s; omega)
  obtain ⟨⟨k1, k2⟩, ⟨b1, b2⟩, ⟨q1, q2⟩, z1, z2⟩ := hi
  have hkk : 0 ≤ key * key ∧ key * key ≤ 4292870400 := ⟨Int.mul_nonneg (by omega) (by omega), Int.mul_le_mul (c := 65520) (d := 65520) k2 k2 (by omega) (by omega)⟩
  obtain ⟨kk1, kk2⟩ := hkk
  clear ht B0 P0
  go_enter Tryd.func88, Tryd.ntmps88
  go_wp2
  rw [← hW]
  clear hW
  refine wp_region_quiet_below (by kernel_rfl) (by kernel_rfl) ?_
  repeat (go_big_quiet_step (first | (go_at_call 72; exact Calls.regrown_of (HDC.out _ _))))
  refine wpQuiet_nil ?_
  intro _ hw9
  obtain ⟨⟨dq, osq⟩, hw9⟩ := hw9
  subst hw9
  have hb5 := below_regrown W dq osq
  dsimp only at hb5 ⊢
  generalize grow (redrawn W dq) osq = w5 at hb5 ⊢
  have HB5 := Lib.hid (HB0.out.trans (hb5.mono HB0.out.size))
  rw [← HTX.out, ← HZ.out]
  clear hb5 e0 e1 e2 s1 z1 z2 HTX HDC HZ
  generalize txt p = T at *
  have hbt := PlainAid.get_bt T
  have hsz := HSZ.out
  go_wp2
  go_loop [26, 9, 7] (fun v26 v9 v7 => ∃ k : Nat, k ≤ T.size ∧ v26 = .int .i64 k ∧ v7 = .int .i64 (sgTo key before T k)) (fun v26 _ _ => T.size - (intOf v26).toNat)
  case atStart => exact ⟨0, Nat.zero_le _, rfl, rfl⟩
  case round =>
    obtain ⟨k, hk, rfl, rfl⟩ := hrel
    have hb := HBD.out k
    by_cases hlt : k < T.size
    · have hlt' : (k : Int) < (T.size : Int) := by omega
      have c1 := PlainAid.bt_nonneg T k
      have c2 := PlainAid.bt_le T k
      have HSK := Lib.hid (HS1.out k)
      generalize sgTo key before T k = S at *
      obtain ⟨hb1, hb2⟩ := hb
      go_wp2
      go_round
      case rel => exact ⟨k + 1, by omega, by go_num, by rw [HSK.out]⟩
      case measure => simp [intOf]; omega
    · obtain rfl : k = T.size := by omega
      have HE : Hid (sgV key before p = (sgTo key before T T.size + key * key) % 65521) := HV.out
      generalize sgTo key before T T.size = S at *
      obtain ⟨hb1, hb2⟩ := hb
      clear hbt
      go_wp2
      go_ret
      exact ⟨by rw [HE.out]; rfl, HB5.out⟩
end Go.Proofs.YtencnldflnbdiaaDoor
