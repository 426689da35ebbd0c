/- SignatureOf of the program and of the reference: sgVal and sgCode. -/
import Derived.Test.YtencnldflnbdiaaDoorDec
import Derived.Test.YtencnldflnbdiaaDoorREntry
import Derived.Test.YtencnldflnbdiaaDoorNames
import Derived.Test.YtencnldflnbdiaaDoorLow
import Derived.Lib.QuietBelow
import Derived.BigQuiet
namespace Go.Proofs.YtencnldflnbdiaaDoor
open Go.RowKit Go.Sort
set_option linter.unusedVariables false

def txb (s : ByteArray) (i : Nat) : Bool := decide (32 ≤ PlainAid.bt s i) && decide (PlainAid.bt s i ≤ 126)
def txTo (s : ByteArray) (k : Nat) : Bool := allTo (txb s) k
def lenB (s : ByteArray) : Bool := decide (1 ≤ (s.size : Int)) && decide ((s.size : Int) ≤ 50)
def enOk (p : Entry) : Bool := inB p.second 0 1000000 && (nmOk p.who && (txTo p.what p.what.size && lenB p.what))
def sgTo (key before : Int) (t : ByteArray) : Nat → Int
  | 0 => (before + 11 * key) % 65521
  | k + 1 => (41 * sgTo key before t k + PlainAid.bt t k) % 65521
def txt (p : Entry) : ByteArray := decS p.second ++ p.who ++ p.what
def sgV (key before : Int) (p : Entry) : Int := (sgTo key before (txt p) (txt p).size + key * key) % 65521
def sgOk (key before : Int) : Bool := inB key 1 65520 && inB before 0 65520
def sgVal (key before : Int) (p : Entry) : Int := if enOk p && sgOk key before then sgV key before p else 0
def sgCode (key before : Int) (p : Entry) : Int := if enOk p then (if sgOk key before then 0 else 2) else 1
theorem sg_no {key before : Int} {p : Entry} (h : enOk p = false) : sgVal key before p = 0 ∧ sgCode key before p = 1 := by unfold sgVal sgCode; rw [h]; exact ⟨rfl, rfl⟩
theorem sg_range {key before : Int} {p : Entry} (h : enOk p = true) (h2 : sgOk key before = false) : sgVal key before p = 0 ∧ sgCode key before p = 2 := by unfold sgVal sgCode; rw [h, h2]; exact ⟨rfl, rfl⟩
theorem sg_yes {key before : Int} {p : Entry} (h : enOk p = true) (h2 : sgOk key before = true) : sgVal key before p = sgV key before p ∧ sgCode key before p = 0 := by unfold sgVal sgCode; rw [h, h2]; exact ⟨rfl, rfl⟩
theorem tmod_bd {x : Int} (h : 0 ≤ x) : 0 ≤ x % 65521 ∧ x % 65521 ≤ 65520 := by omega
theorem sgTo_bd {key before : Int} (h1 : 1 ≤ key ∧ key ≤ 65520) (h2 : 0 ≤ before ∧ before ≤ 65520) (t : ByteArray) : ∀ k, 0 ≤ sgTo key before t k ∧ sgTo key before t k ≤ 65520
  | 0 => tmod_bd (by omega)
  | k + 1 => by
    have ih := sgTo_bd h1 h2 t k
    have := PlainAid.bt_nonneg t k
    exact tmod_bd (by omega)
theorem tx_step {s : ByteArray} {k : Nat} (h : txTo s k = true) (h1 : 32 ≤ PlainAid.bt s k) (h2 : PlainAid.bt s k ≤ 126) : txTo s (k + 1) = true := allTo_step h (by unfold txb; rw [decide_eq_true h1, decide_eq_true h2]; rfl)
theorem tx_bad {s : ByteArray} {k n : Nat} (hk : k < n) (h : PlainAid.bt s k < 32 ∨ 126 < PlainAid.bt s k) : txTo s n = false := allTo_bad hk (by
  unfold txb
  rcases h with h | h
  · rw [decide_eq_false (by omega)]; rfl
  · rw [decide_eq_false (show ¬ PlainAid.bt s k ≤ 126 by omega), Bool.and_false])
theorem within7_eq (n a b : Int) (w : World) {v : Bool} (h : inB n a b = v) : Calls Tryd.prog 68 #[.int .i64 n, .int .i64 a, .int .i64 b] w fun e w' => e = .returned (.bool v) ∧ w = w' := by subst h; exact within_any n a b w
theorem in7_eq (n a b : Int) (w : World) {v : Bool} (h : inB n a b = v) : Calls Tryd.prog 85 #[.int .i64 n, .int .i64 a, .int .i64 b] w fun e w' => e = .returned (.bool v) ∧ w = w' := by subst h; exact l00In_any n a b w
theorem nm_eq (s : ByteArray) (w : World) (hs : s.size ≤ 9223372036854775807) {v : Bool} (h : nmOk s = v) : Calls Tryd.prog 146 #[.string s] w fun e w' => e = .returned (.bool v) ∧ w = w' := by subst h; exact isName_any s w hs
theorem snm_eq (s : ByteArray) (w : World) (hs : s.size ≤ 9223372036854775807) {v : Bool} (h : nmOk s = v) : Calls Tryd.prog 139 #[.string s] w fun e w' => e = .returned (.bool v) ∧ w = w' := by subst h; exact specName_any s w hs
theorem lenB_in (s : ByteArray) : lenB s = inB (s.size : Int) 1 50 := rfl
set_option maxRecDepth 100000 in
set_option maxHeartbeats 1600000 in
theorem l25Text_any (s : ByteArray) (w : World) (hs : s.size ≤ 9223372036854775807) : Calls Tryd.prog 145 #[.string s] w fun e w' => e = .returned (.bool (txTo s s.size && lenB s)) ∧ w = w' := by
  have hbt := PlainAid.get_bt s
  go_enter Tryd.func145, Tryd.ntmps145
  go_wp2
  go_loop [3] (fun i => ∃ k : Nat, k ≤ s.size ∧ i = .int .i64 k ∧ txTo s k = true) (fun i => s.size - (intOf i).toNat)
  case atStart => exact ⟨0, Nat.zero_le _, rfl, rfl⟩
  case round =>
    obtain ⟨k, hk, rfl, hT⟩ := hrel
    have HT := Lib.hid hT
    clear hT
    by_cases hlt : k < s.size
    · have hlt' : (k : Int) < (s.size : Int) := by omega
      have HST := Lib.hid (fun h1 h2 => tx_step HT.out h1 h2)
      have HBD := Lib.hid (fun h => tx_bad (s := s) (n := s.size) hlt h)
      by_cases h1 : PlainAid.bt s k < 32
      · have HE : Hid ((txTo s s.size && lenB s) = false) := by show _ = _; rw [HBD.out (.inl h1)]; rfl
        go_wp2
        go_ret
        exact ⟨by rw [HE.out]; rfl, rfl⟩
      · by_cases h2 : 126 < PlainAid.bt s k
        · have HE : Hid ((txTo s s.size && lenB s) = false) := by show _ = _; rw [HBD.out (.inr h2)]; rfl
          go_wp2
          go_ret
          exact ⟨by rw [HE.out]; rfl, rfl⟩
        · have HE : Hid (txTo s (k + 1) = true) := HST.out (by omega) (by omega)
          go_wp2
          go_round
          case rel => exact ⟨k + 1, by omega, by go_num, HE.out⟩
          case measure => simp [intOf]; omega
    · obtain rfl : k = s.size := by omega
      have HE : Hid ((txTo s s.size && lenB s) = inB (s.size : Int) 1 50) := by show _ = _; rw [HT.out]; exact lenB_in s
      clear hbt
      go_wp2_with fail
      refine (in7_eq _ _ _ _ rfl).mono ?_
      rintro e w1 ⟨rfl, rfl⟩
      go_wp2
      go_ret
      exact ⟨by rw [HE.out]; rfl, rfl⟩
set_option maxRecDepth 100000 in
set_option maxHeartbeats 3200000 in
theorem enPlain_any (p : Entry) (w : World) (hw : p.who.size ≤ 9223372036854775807) (hs : p.what.size ≤ 9223372036854775807) :
    Calls Tryd.prog 87 #[.agg #[.int .i64 p.second, .string p.who, .string p.what]] w fun e w' => e = .returned (.bool (enOk p)) ∧ Below w.heap.size w w' := by
  have hbt := PlainAid.get_bt p.what
  have HO : Hid (enOk p = (inB p.second 0 1000000 && (nmOk p.who && (txTo p.what p.what.size && (decide (1 ≤ (p.what.size : Int)) && decide ((p.what.size : Int) ≤ 50)))))) := rfl
  obtain ⟨W, hW⟩ : ∃ W : World, W = w.alloc (.cells #[.int .i64 p.second, .string p.who, .string p.what] 65) := ⟨_, rfl⟩
  have HB0 : Hid (Below w.heap.size w W) := by rw [hW]; exact (Below.refl _ _).alloc (Nat.le_refl _) _
  have P0 : Blk W w.heap.size 65 #[.int .i64 p.second, .string p.who, .string p.what] := by rw [hW]; exact Blk.new _ _ _
  have e0 : W.cell? ⟨w.heap.size, 0, none⟩ = some (.int .i64 p.second) := (P0.cell 0).trans rfl
  have e1 : W.cell? ⟨w.heap.size, 1, none⟩ = some (.string p.who) := (P0.cell 1).trans rfl
  have e2 : W.cell? ⟨w.heap.size, 2, none⟩ = some (.string p.what) := (P0.cell 2).trans rfl
  clear P0
  go_enter Tryd.func87, Tryd.ntmps87
  go_wp2
  rw [← hW]
  clear hW
  go_loop [7, 3] (fun v7 v3 => ∃ k : Nat, k ≤ p.what.size ∧ v7 = .int .i64 k ∧ txTo p.what k = true) (fun v7 _ => p.what.size - (intOf v7).toNat)
  case atStart => exact ⟨0, Nat.zero_le _, rfl, rfl⟩
  case round =>
    obtain ⟨k, hk, rfl, hT⟩ := hrel
    have HT := Lib.hid hT
    clear hT
    by_cases hlt : k < p.what.size
    · have hlt' : (k : Int) < (p.what.size : Int) := by omega
      have HST := Lib.hid (fun h1 h2 => tx_step HT.out h1 h2)
      have HBD := Lib.hid (fun h => tx_bad (s := p.what) (n := p.what.size) hlt h)
      by_cases h1 : PlainAid.bt p.what k < 32
      · have HE : Hid (enOk p = false) := by show _ = _; rw [HO.out, HBD.out (.inl h1)]; simp
        go_wp2
        go_ret
        exact ⟨by rw [HE.out]; rfl, HB0.out⟩
      · by_cases h2 : 126 < PlainAid.bt p.what k
        · have HE : Hid (enOk p = false) := by show _ = _; rw [HO.out, HBD.out (.inr h2)]; simp
          go_wp2
          go_ret
          exact ⟨by rw [HE.out]; rfl, HB0.out⟩
        · have HE : Hid (txTo p.what (k + 1) = true) := HST.out (by omega) (by omega)
          go_wp2
          go_round
          case rel => exact ⟨k + 1, by omega, by go_num, HE.out⟩
          case measure => simp [intOf]; omega
    · obtain rfl : k = p.what.size := by omega
      have HO2 : Hid (enOk p = (inB p.second 0 1000000 && (nmOk p.who && (decide (1 ≤ (p.what.size : Int)) && decide ((p.what.size : Int) ≤ 50))))) := by show _ = _; rw [HO.out, HT.out]; simp
      clear hbt
      cases f1 : inB p.second 0 1000000
      · have HE : Hid (enOk p = false) := by show _ = _; rw [HO2.out, f1]; rfl
        have F1 := Lib.hid f1
        clear f1
        go_wp2_with fail
        refine (within7_eq _ _ _ _ F1.out).mono ?_
        rintro _ _ ⟨rfl, rfl⟩
        go_wp2
        go_ret
        exact ⟨by rw [HE.out]; rfl, HB0.out⟩
      · cases f2 : nmOk p.who
        · have HE : Hid (enOk p = false) := by show _ = _; rw [HO2.out, f2]; simp
          have F1 := Lib.hid f1
          have F2 := Lib.hid f2
          clear f1 f2
          go_wp2_with fail
          refine (within7_eq _ _ _ _ F1.out).mono ?_
          rintro _ _ ⟨rfl, rfl⟩
          go_wp2_with fail
          refine (nm_eq _ _ hw F2.out).mono ?_
          rintro _ _ ⟨rfl, rfl⟩
          go_wp2
          go_ret
          exact ⟨by rw [HE.out]; rfl, HB0.out⟩
        · have HO3 : Hid (enOk p = (decide (1 ≤ (p.what.size : Int)) && decide ((p.what.size : Int) ≤ 50))) := by show _ = _; rw [HO2.out, f1, f2]; rfl
          have F1 := Lib.hid f1
          have F2 := Lib.hid f2
          clear f1 f2
          by_cases g1 : 1 ≤ (p.what.size : Int)
          · have HE : Hid (enOk p = decide ((p.what.size : Int) ≤ 50)) := by show _ = _; rw [HO3.out, decide_eq_true g1]; rfl
            go_wp2_with fail
            refine (within7_eq _ _ _ _ F1.out).mono ?_
            rintro _ _ ⟨rfl, rfl⟩
            go_wp2_with fail
            refine (nm_eq _ _ hw F2.out).mono ?_
            rintro _ _ ⟨rfl, rfl⟩
            go_wp2
            go_ret
            exact ⟨by rw [HE.out]; rfl, HB0.out⟩
          · have HE : Hid (enOk p = false) := by show _ = _; rw [HO3.out, decide_eq_false g1]; rfl
            go_wp2_with fail
            refine (within7_eq _ _ _ _ F1.out).mono ?_
            rintro _ _ ⟨rfl, rfl⟩
            go_wp2_with fail
            refine (nm_eq _ _ hw F2.out).mono ?_
            rintro _ _ ⟨rfl, rfl⟩
            go_wp2
            go_ret
            exact ⟨by rw [HE.out]; rfl, HB0.out⟩
theorem text_eq (s : ByteArray) (w : World) (hs : s.size ≤ 9223372036854775807) {v : Bool} (hv : (txTo s s.size && lenB s) = v) : Calls Tryd.prog 145 #[.string s] w fun e w' => e = .returned (.bool v) ∧ w = w' := by subst hv; exact l25Text_any s w hs
set_option maxRecDepth 100000 in
set_option maxHeartbeats 1600000 in
theorem l25Plain_any (b : Nat) (p : Entry) (w : World) (e0 : w.cell? ⟨b, 0, none⟩ = some (.int .i64 p.second)) (e1 : w.cell? ⟨b, 1, none⟩ = some (.string p.who)) (e2 : w.cell? ⟨b, 2, none⟩ = some (.string p.what)) (hw : p.who.size ≤ 9223372036854775807) (hs : p.what.size ≤ 9223372036854775807) :
    Calls Tryd.prog 84 #[.pointer (some ⟨b, 0, none⟩)] w fun e w' => e = .returned (.bool (enOk p)) ∧ w = w' := by
  have HO : Hid (enOk p = (inB p.second 0 1000000 && (nmOk p.who && (txTo p.what p.what.size && lenB p.what)))) := rfl
  cases f1 : inB p.second 0 1000000
  · have HE : Hid (enOk p = false) := by show _ = _; rw [HO.out, f1]; rfl
    have F1 := Lib.hid f1
    clear f1
    go_enter Tryd.func84, Tryd.ntmps84
    go_wp2_with fail
    refine (in7_eq _ _ _ _ F1.out).mono ?_
    rintro _ _ ⟨rfl, rfl⟩
    go_wp2
    go_ret
    exact ⟨by rw [HE.out]; rfl, rfl⟩
  · cases f2 : nmOk p.who
    · have HE : Hid (enOk p = false) := by show _ = _; rw [HO.out, f2]; simp
      have F1 := Lib.hid f1
      have F2 := Lib.hid f2
      clear f1 f2
      go_enter Tryd.func84, Tryd.ntmps84
      go_wp2_with fail
      refine (in7_eq _ _ _ _ F1.out).mono ?_
      rintro _ _ ⟨rfl, rfl⟩
      go_wp2_with fail
      refine (snm_eq _ _ hw F2.out).mono ?_
      rintro _ _ ⟨rfl, rfl⟩
      go_wp2
      go_ret
      exact ⟨by rw [HE.out]; rfl, rfl⟩
    · have HE : Hid (enOk p = (txTo p.what p.what.size && lenB p.what)) := by show _ = _; rw [HO.out, f1, f2]; rfl
      have F1 := Lib.hid f1
      have F2 := Lib.hid f2
      clear f1 f2
      go_enter Tryd.func84, Tryd.ntmps84
      go_wp2_with fail
      refine (in7_eq _ _ _ _ F1.out).mono ?_
      rintro _ _ ⟨rfl, rfl⟩
      go_wp2_with fail
      refine (snm_eq _ _ hw F2.out).mono ?_
      rintro _ _ ⟨rfl, rfl⟩
      go_wp2_with fail
      refine (text_eq _ _ hs rfl).mono ?_
      rintro _ _ ⟨rfl, rfl⟩
      go_wp2
      go_ret
      exact ⟨by rw [HE.out]; rfl, rfl⟩
end Go.Proofs.YtencnldflnbdiaaDoor
