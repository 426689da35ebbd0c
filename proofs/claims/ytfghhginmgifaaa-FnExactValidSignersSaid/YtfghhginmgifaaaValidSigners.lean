/- ValidSigners of the program, l25Ok of the reference: both say signersOk. -/
import Derived.Test.YtfghhginmgifaaaRSigner
import Derived.Test.YtfghhginmgifaaaNames
import Derived.Test.YtfghhginmgifaaaLow
import Derived.Test.YtfghhginmgifaaaFind
import Derived.Test.YtfghhginmgifaaaQuiet
import Derived.Deep.RegionHeld3
namespace Go.Proofs.Ytfghhginmgifaaa
open Go.RowKit
set_option linter.unusedVariables false

theorem toListS_beq {s t : ByteArray} : (s.toList == t.toList) = decide (s = t) := by
  rw [Bool.eq_iff_iff]; simp only [beq_iff_eq, decide_eq_true_eq, ByteArray.toList_eq]; exact ba_eq
theorem isName_eq (s : ByteArray) (w : World) (hs : s.size ≤ 9223372036854775807) {v : Bool} (h : nmOk s = v) : Calls Try.prog 66 #[.string s] w fun e w' => e = .returned (.bool v) ∧ w = w' := by subst h; exact isName_any s w hs
theorem within_eq (n a b : Int) (w : World) {v : Bool} (h : inB n a b = v) : Calls Try.prog 64 #[.int .i64 n, .int .i64 a, .int .i64 b] w fun e w' => e = .returned (.bool v) ∧ w = w' := by subst h; exact within_any n a b w
def sName (s : ByteArray) (p : Signer) : Bool := decide (p.name = s)
def sgAt (xs : List Signer) (i : Nat) : Bool := match xs[i]? with | some p => nmOk p.name && (inB p.key 1 65520 && noTo (sName p.name) xs i) | none => true
def signersOk (xs : List Signer) : Bool := allTo (sgAt xs) xs.length && inB xs.length 1 8
theorem sgAt_of {xs : List Signer} {i : Nat} {p : Signer} (h : xs[i]? = some p) : sgAt xs i = (nmOk p.name && (inB p.key 1 65520 && noTo (sName p.name) xs i)) := by simp only [sgAt, h]
theorem signersOk_bad {xs : List Signer} {i : Nat} {p : Signer} (h : xs[i]? = some p) (hb : (nmOk p.name && (inB p.key 1 65520 && noTo (sName p.name) xs i)) = false) : signersOk xs = false := by
  unfold signersOk; rw [allTo_bad (List.getElem?_eq_some_iff.1 h).1 (by rw [sgAt_of h]; exact hb)]; rfl
theorem noTo_take {α : Type} (q : α → Bool) (xs : List α) (k : Nat) (hk : k ≤ xs.length) : noTo q (xs.take k) (xs.take k).length = noTo q xs k := by
  have hl : (xs.take k).length = k := by rw [List.length_take]; omega
  rw [hl, Bool.eq_iff_iff, noTo_iff, noTo_iff]
  constructor
  · intro h j hj y hy; exact h j hj y (by rw [List.getElem?_take, if_pos hj]; exact hy)
  · intro h j hj y hy; rw [List.getElem?_take, if_pos hj] at hy; exact h j hj y hy

theorem sNameC_any (p : Signer) (s : ByteArray) (g : Nat) (W : World) (hg : W.cell? ⟨g, 0, none⟩ = some (.string s)) :
    Calls Try.prog 99 #[.agg #[.string p.name, .int .i64 p.key], .pointer (some ⟨g, 0, none⟩)] W fun e W' => e = .returned (.bool (sName s p)) ∧ Below W.heap.size W W' := by
  have hne := World.block_lt_of_cell? W _ hg
  simp only at hne
  have hg2 : ∀ o, (W.alloc o).cell? ⟨g, 0, none⟩ = some (.string s) := fun o => (World.cell?_alloc_lt W o _ hne).trans hg
  have hb : (p.name.toList == s.toList) = decide (p.name = s) := toListS_beq
  go_enter Try.func99, Try.ntmps99
  go_wp2
  go_ret
  exact ⟨rfl, (Below.refl _ _).alloc (Nat.le_refl _) _⟩

set_option maxHeartbeats 800000 in
theorem indexSName_any (A : Option Addr) (n c : Nat) (ps : List Signer) (w : World) (lo : Nat) (h : Arr Signer.cs 2 w lo w.heap.size A n ps) (hn : n ≤ 9223372036854775807) (q : Signer → Bool) (g : Addr)
    (hf : ∀ (p : Signer) (W : World), p ∈ ps → Below w.heap.size w W → Calls Try.prog 99 #[.agg #[.string p.name, .int .i64 p.key], .pointer (some g)] W fun e W' => e = .returned (.bool (q p)) ∧ Below W.heap.size W W') :
    Calls Try.prog 98 #[.slice A n c, .func (.func 99) #[] #[.pointer (some g)]] w fun e w' => e = .returned (.int .i64 (fIdx q ps)) ∧ Below w.heap.size w w' := by
  have HF := Lib.hid hf
  clear hf
  go_enter Try.func98, Try.ntmps98
  go_wp2
  go_loopw [8] (fun i wr => ∃ k : Nat, k ≤ n ∧ i = .int .i64 k ∧ noTo q ps k = true ∧ Below w.heap.size w wr) (fun i _ => n - (intOf i).toNat)
  case atStart => exact ⟨0, Nat.zero_le _, rfl, rfl, Below.refl _ _⟩
  case round =>
    obtain ⟨k, hk, rfl, hno, hb⟩ := hrel
    have HN := Lib.hid hno
    clear hno
    by_cases hlt : k < n
    · obtain ⟨b, off, p, rfl, hx, _, hbl, c0, c1⟩ := Signer.at (h.below hb) hlt
      have HX := Lib.hid hx
      clear hx
      cases hq : q p
      · have HQ := Lib.hid hq
        go_wp2_with (go_at_call 99; refine (HF.out p _ (List.mem_of_getElem? HX.out) hb).mono ?_; rintro e w1 ⟨rfl, hb1⟩)
        go_roundw
        case rel => exact ⟨k + 1, by omega, by go_num, noTo_step HN.out HX.out HQ.out, hb.trans (hb1.mono hb.size)⟩
        case measure => simp [intOf]; omega
      · have HQ := Lib.hid hq
        go_wp2_with (go_at_call 99; refine (HF.out p _ (List.mem_of_getElem? HX.out) hb).mono ?_; rintro e w1 ⟨rfl, hb1⟩)
        go_ret
        exact ⟨by rw [fIdx_hit HN.out HX.out HQ.out]; rfl, hb.trans (hb1.mono hb.size)⟩
    · obtain rfl : k = n := by omega
      have HE : Hid (fIdx q ps = -1) := fIdx_none (by rw [h.1]; exact HN.out)
      go_wp2
      go_ret
      exact ⟨by rw [HE.out]; rfl, hb⟩

theorem signer_any (A : Option Addr) (n c : Nat) (xs : List Signer) (s : ByteArray) (w : World) (lo : Nat) (h : Arr Signer.cs 2 w lo w.heap.size A n xs) (hn : n ≤ 1048576) :
    Calls Try.prog 85 #[.slice A n c, .string s] w fun e w' => e = .returned (.int .i64 (fIdx (sName s) xs)) ∧ Below w.heap.size w w' := by
  have hmf : ∀ (fn : Fn) (first cap : Array Value) (W : World), (Instr.makeFunc fn first cap).run Try.prog W = .ok (.func fn first cap) W := fun _ _ _ _ => rfl
  have b0 : ∀ o, Below w.heap.size w (w.alloc o) := fun o => (Below.refl _ _).alloc (Nat.le_refl _) _
  go_enter Try.func85, Try.ntmps85
  go_wp2_with fail
  refine (indexSName_any A n c xs _ lo ((h.below (b0 _)).more (by simp)) (by omega) (sName s) ⟨w.heap.size, 0, none⟩ (fun p W _ hW => sNameC_any p s _ W ((hW.cell (by simp)).trans (by simp)))).mono ?_
  rintro e w1 ⟨rfl, hb⟩
  go_wp2
  go_ret
  exact ⟨rfl, (b0 _).trans (hb.mono (by simp))⟩

set_option maxHeartbeats 1600000 in
theorem validSigners_any (A : Option Addr) (n c : Nat) (xs : List Signer) (w : World) (lo : Nat) (h : Arr Signer.cs 2 w lo w.heap.size A n xs) (hn : n ≤ 1048576) (hc : n ≤ c) (hc2 : c ≤ 1048576) (hp : ∀ p ∈ xs, p.wf) :
    Calls Try.prog 53 #[.slice A n c] w fun e w' => e = .returned (.bool (signersOk xs)) ∧ Below w.heap.size w w' := by
  have HL := Lib.hid h.1
  go_enter Try.func53, Try.ntmps53
  go_wp2
  go_loopw [7] (fun i wr => ∃ k : Nat, k ≤ n ∧ i = .int .i64 k ∧ allTo (sgAt xs) k = true ∧ Below w.heap.size w wr) (fun i _ => n - (intOf i).toNat)
  case atStart => exact ⟨0, Nat.zero_le _, rfl, rfl, Below.refl _ _⟩
  case round =>
    obtain ⟨k, hk, rfl, hall, hb⟩ := hrel
    have HA := Lib.hid hall
    clear hall
    by_cases hlt : k < n
    · obtain ⟨b, off, p, rfl, hx, _, hbl, c0, c1⟩ := Signer.at (h.below hb) hlt
      have hpn := (hp p (List.mem_of_getElem? hx)).name
      have HX := Lib.hid hx
      clear hx
      have hk0 : (0 : Int) ≤ (k : Int) := by omega
      have hkc : (k : Int) ≤ (c : Int) := by omega
      have hsz := hb.size
      have b0 : ∀ o, Below w.heap.size w (wr.alloc o) := fun o => hb.alloc hb.size o
      cases h1 : nmOk p.name
      · have HB := Lib.hid (signersOk_bad HX.out (by rw [h1]; rfl))
        go_wp2_with fail
        go_quiet ((go_at_call 66; exact quiet_left (isName_eq _ _ hpn h1)))
        go_wp2
        go_ret
        exact ⟨by rw [HB.out]; rfl, bel_drewN (b0 _) _⟩
      · have H1 := Lib.hid h1
        cases h2 : inB p.key 1 65520
        · have HB := Lib.hid (signersOk_bad HX.out (by rw [h1, h2]; rfl))
          go_wp2_with fail
          go_quiet ((first | (go_at_call 66; exact quiet_left (isName_eq _ _ hpn h1)) | (go_at_call 64; exact quiet_left (within_eq _ _ _ _ h2))))
          go_wp2
          go_ret
          exact ⟨by rw [HB.out]; rfl, bel_drewN (b0 _) _⟩
        · have H2 := Lib.hid h2
          go_wp2_with fail
          go_region_held3 (fun w' => w'.cell? ⟨wr.heap.size, 0, none⟩ = some (.string p.name) ∧ w'.cell? ⟨wr.heap.size, 1, none⟩ = some (.int .i64 p.key)) (first | go_keep | exact ⟨(hb5.cell (by simp)).trans (by simp), (hb5.cell (by simp)).trans (by simp)⟩) (first | (go_at_call 66; refine (isName_eq _ _ hpn h1).mono ?_; rintro e w3 ⟨rfl, rfl⟩) | (go_at_call 64; refine (within_eq _ _ _ _ h2).mono ?_; rintro e w3 ⟨rfl, rfl⟩) | (go_at_call 85; refine (signer_any _ k _ (xs.take k) _ _ lo (((h.below (b0 _).drew).more (by simp; omega)).take hk) (by omega)).mono ?_; rintro e w5 ⟨rfl, hb5⟩))
          have hb6 : Below w.heap.size w w5 := ((b0 _).drew).trans (hb5.mono (by simp; omega))
          have HT := Lib.hid (noTo_take (sName p.name) xs k (by have := HL.out; omega))
          rcases fIdx_cases (sName p.name) (xs.take k) with ⟨i1, i2, _⟩ | ⟨m, y, i1, i2, i3, i4, _, _⟩
          · have HN : Hid (noTo (sName p.name) xs k = true) := HT.out.symm.trans i2
            have i5 : fIdx (sName p.name) (xs.take k) < 0 := by rw [i1]; omega
            clear i1 i2
            go_wp2
            go_roundw
            case rel => exact ⟨k + 1, by omega, by go_num, allTo_step HA.out (by rw [sgAt_of HX.out, H1.out, H2.out, HN.out]; rfl), hb6⟩
            case measure => simp [intOf]; omega
          · have HN : Hid (noTo (sName p.name) xs k = false) := by
              show _ = _
              rw [Bool.eq_false_iff]; intro h7
              rw [List.getElem?_take] at i3
              split at i3
              · have := noTo_iff.1 h7 m (by assumption) y i3; rw [this] at i4; cases i4
              · cases i3
            have HB := Lib.hid (signersOk_bad HX.out (by rw [H1.out, H2.out, HN.out]; rfl))
            have i5 : 0 ≤ fIdx (sName p.name) (xs.take k) := by rw [i1]; omega
            clear i1 i2 i3 i4
            go_wp2
            go_ret
            exact ⟨by rw [HB.out]; rfl, hb6⟩
    · obtain rfl : k = n := by omega
      have H3 : Hid (signersOk xs = (decide ((1 : Int) ≤ (k : Int)) && decide ((k : Int) ≤ 8))) := by
        show _ = _
        unfold signersOk; rw [h.1, HA.out]; rfl
      by_cases g1 : (1 : Int) ≤ (k : Int)
      · by_cases g2 : (k : Int) ≤ 8
        · go_wp2
          go_ret
          exact ⟨by rw [H3.out]; simp; omega, hb⟩
        · go_wp2
          go_ret
          exact ⟨by rw [H3.out]; simp; omega, hb⟩
      · go_wp2
        go_ret
        exact ⟨by rw [H3.out]; simp; omega, hb⟩

/-- the key of the first signer of that name, else 0 -/
def keyOfName (xs : List Signer) (s : ByteArray) : Int := match xs.find? (sName s) with | some p => p.key | none => 0
theorem keyOfName_hit {xs : List Signer} {s : ByteArray} {k : Nat} {p : Signer} (h : noTo (sName s) xs k = true) (hx : xs[k]? = some p) (hq : sName s p = true) : keyOfName xs s = p.key := by
  unfold keyOfName
  have : xs.find? (sName s) = some p := by
    rw [List.find?_eq_some_iff_getElem]
    refine ⟨hq, k, (List.getElem?_eq_some_iff.1 hx).1, (List.getElem?_eq_some_iff.1 hx).2, fun j hj => ?_⟩
    rw [noTo_iff.1 h j hj _ (List.getElem?_eq_getElem (by have := (List.getElem?_eq_some_iff.1 hx).1; omega))]; rfl
  rw [this]
theorem keyOfName_none {xs : List Signer} {s : ByteArray} (h : noTo (sName s) xs xs.length = true) : keyOfName xs s = 0 := by
  unfold keyOfName
  have : xs.find? (sName s) = none := by
    rw [List.find?_eq_none]; intro y hy
    obtain ⟨j, hj, rfl⟩ := List.getElem_of_mem hy
    rw [noTo_iff.1 h j hj _ (List.getElem?_eq_getElem hj)]; simp
  rw [this]

set_option maxHeartbeats 800000 in
theorem specKey_any (A : Option Addr) (n c : Nat) (xs : List Signer) (s : ByteArray) (w : World) (lo : Nat) (h : Arr Signer.cs 2 w lo w.heap.size A n xs) (hn : n ≤ 1048576) :
    Calls Try.prog 97 #[.slice A n c, .string s] w fun e w' => e = .returned (.int .i64 (keyOfName xs s)) ∧ w = w' := by
  have HL := Lib.hid h.1
  go_enter Try.func97, Try.ntmps97
  go_wp2
  go_loop [5] (fun i => ∃ k : Nat, k ≤ n ∧ i = .int .i64 k ∧ noTo (sName s) xs k = true) (fun i => n - (intOf i).toNat)
  case atStart => exact ⟨0, Nat.zero_le _, rfl, rfl⟩
  case round =>
    obtain ⟨k, hk, rfl, hno⟩ := hrel
    have HN := Lib.hid hno
    clear hno
    by_cases hlt : k < n
    · obtain ⟨b, off, p, rfl, hx, _, hbl, c0, c1⟩ := Signer.at h hlt
      have HX := Lib.hid hx
      clear hx
      have hk0 : (0 : Int) ≤ (k : Int) := by omega
      have hk1 : (k : Int) < (n : Int) := by omega
      by_cases hq : p.name = s
      · have HK := Lib.hid (keyOfName_hit HN.out HX.out (decide_eq_true hq))
        have hqq : (p.name.toList == s.toList) = true := by rw [toListS_beq]; exact decide_eq_true hq
        clear hq
        go_wp2
        go_ret
        exact ⟨by rw [HK.out]; rfl, rfl⟩
      · have HQ : Hid (sName s p = false) := decide_eq_false hq
        have hqq : (p.name.toList == s.toList) = false := by rw [toListS_beq]; exact decide_eq_false hq
        clear hq
        go_wp2
        go_round
        case rel => exact ⟨k + 1, by omega, by go_num, noTo_step HN.out HX.out HQ.out⟩
        case measure => simp [intOf]; omega
    · obtain rfl : k = n := by omega
      have HK : Hid (keyOfName xs s = 0) := keyOfName_none (by rw [HL.out]; exact HN.out)
      go_wp2
      go_ret
      exact ⟨by rw [HK.out]; rfl, rfl⟩
end Go.Proofs.Ytfghhginmgifaaa
