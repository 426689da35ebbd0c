/- The first shift with a fault, of the program and of the reference; ShiftFault of both. -/
import Derived.Test.YtdoinbnnpompiaaSpecFault
import Derived.Lib.QuietBelow
namespace Go.Proofs.Ytdoinbnnpompiaa
open Go.RowKit Go.Sort
set_option linter.unusedVariables false

def noF (ps : List Person) (xs : List Shift) (i : Nat) : Bool := match xs[i]? with | some x => decide (faultOf ps (xs.take i) x = 0) | none => true
def firstK (q : Nat → Bool) (n : Nat) : Option Nat := (List.range n).find? (fun i => !q i)
theorem firstK_hit {q : Nat → Bool} {n k : Nat} (h : allTo q k = true) (hk : k < n) (hq : q k = false) : firstK q n = some k := by
  unfold firstK
  rw [List.find?_range_eq_some]
  refine ⟨by simp [hq], by simpa using hk, fun j hj => ?_⟩
  have := allTo_iff.1 h j hj
  simp [this]
theorem firstK_none {q : Nat → Bool} {n : Nat} (h : allTo q n = true) : firstK q n = none := by
  unfold firstK
  rw [List.find?_eq_none]
  intro j hj
  have := allTo_iff.1 h j (by simpa using hj)
  simp [this]
def atF (ps : List Person) (xs : List Shift) : Int := match firstK (noF ps xs) xs.length with | some k => (k : Int) | none => -1
def kindF (ps : List Person) (xs : List Shift) : Int := match firstK (noF ps xs) xs.length with | some k => (match xs[k]? with | some x => faultOf ps (xs.take k) x | none => 0) | none => 0
theorem noF_of {ps : List Person} {xs : List Shift} {k : Nat} {x : Shift} (h : xs[k]? = some x) : noF ps xs k = decide (faultOf ps (xs.take k) x = 0) := by simp only [noF, h]
theorem first_hit {ps : List Person} {xs : List Shift} {k n : Nat} {x : Shift} (hl : xs.length = n) (h : allTo (noF ps xs) k = true) (hx : xs[k]? = some x) (hq : faultOf ps (xs.take k) x ≠ 0) : atF ps xs = (k : Int) ∧ kindF ps xs = faultOf ps (xs.take k) x := by
  have hk := (List.getElem?_eq_some_iff.1 hx).1
  have := firstK_hit h hk (by rw [noF_of hx]; exact decide_eq_false hq)
  unfold atF kindF; rw [this]; simp [hx]
theorem first_none {ps : List Person} {xs : List Shift} {n : Nat} (hl : xs.length = n) (h : allTo (noF ps xs) n = true) : atF ps xs = -1 ∧ kindF ps xs = 0 := by
  subst hl
  unfold atF kindF; rw [firstK_none h]; exact ⟨rfl, rfl⟩
theorem noF_formed {ps : List Person} {xs : List Shift} {k : Nat} (h : allTo (noF ps xs) k = true) : ∀ y ∈ xs.take k, fOk y = true := by
  intro y hy
  obtain ⟨j, hj, rfl⟩ := List.getElem_of_mem hy
  have hj2 : j < k ∧ j < xs.length := by rw [List.length_take] at hj; omega
  have h1 := allTo_iff.1 h j hj2.1
  have hx : xs[j]? = some xs[j] := List.getElem?_eq_getElem hj2.2
  rw [noF_of hx, decide_eq_true_eq] at h1
  rw [List.getElem_take]
  cases hf : fOk xs[j] with
  | true => rfl
  | false => rw [fault_1 hf] at h1; cases h1

set_option maxRecDepth 100000 in
set_option maxHeartbeats 1600000 in
theorem firstShiftFault_any (A A2 : Option Addr) (n c n2 c2 : Nat) (ps : List Person) (xs : List Shift) (w : World) (lo lo2 : Nat) (h : Arr Person.cs 3 w lo w.heap.size A n ps) (hn : n ≤ 1048576) (h2 : Arr Shift.cs 5 w lo2 w.heap.size A2 n2 xs) (hc : n2 ≤ c2) (hc2 : c2 ≤ 1048576) :
    Calls Try.prog 119 #[.slice A n c, .slice A2 n2 c2] w fun e w' => e = .returned (.tuple #[.int .i64 (atF ps xs), .int .i64 (kindF ps xs)]) ∧ Below w.heap.size w w' := by
  have HL := Lib.hid h2.1
  go_enter Try.func119, Try.ntmps119
  go_wp2
  go_loopw [11] (fun i wr => ∃ k : Nat, k ≤ n2 ∧ i = .int .i64 k ∧ allTo (noF ps xs) k = true ∧ Below w.heap.size w wr) (fun i _ => n2 - (intOf i).toNat)
  case atStart => exact ⟨0, Nat.zero_le _, rfl, rfl, Below.refl _ _⟩
  case round =>
    obtain ⟨k, hk, rfl, hall, hb⟩ := hrel
    have HA := Lib.hid hall
    clear hall
    by_cases hlt : k < n2
    · obtain ⟨b, off, x, rfl, hx, _, hbl, c0, c1, c2', c3, c4⟩ := Shift.at (h2.below hb) hlt
      have HX := Lib.hid hx
      have hsz := hb.size
      have hk0 : (0 : Int) ≤ (k : Int) := by omega
      have hk1 : (k : Int) < (n2 : Int) := by omega
      have hk2 : (k : Int) ≤ (c2 : Int) := by omega
      clear hx
      obtain ⟨W, hW⟩ : ∃ W : World, W = wr.alloc (.cells #[.int .i64 x.person, .int .i64 x.crane, .int .i64 x.role, .int .i64 x.start, .int .i64 x.stop] 79) := ⟨_, rfl⟩
      have hbW : Below wr.heap.size wr W := by rw [hW]; exact (Below.refl _ _).alloc (Nat.le_refl _) _
      have hszW : wr.heap.size < W.heap.size := by rw [hW]; simp
      have t0 := cell_regrown (show W.cell? ⟨wr.heap.size, 0, none⟩ = some (.int .i64 x.person) by rw [hW]; simp)
      have t1 := cell_regrown (show W.cell? ⟨wr.heap.size, 1, none⟩ = some (.int .i64 x.crane) by rw [hW]; simp)
      have t2 := cell_regrown (show W.cell? ⟨wr.heap.size, 2, none⟩ = some (.int .i64 x.role) by rw [hW]; simp)
      have t3 := cell_regrown (show W.cell? ⟨wr.heap.size, 3, none⟩ = some (.int .i64 x.start) by rw [hW]; simp)
      have t4 := cell_regrown (show W.cell? ⟨wr.heap.size, 4, none⟩ = some (.int .i64 x.stop) by rw [hW]; simp)
      obtain ⟨v, hv⟩ : ∃ v : Int, faultOf ps (xs.take k) x = v := ⟨_, rfl⟩
      have hbB : Below w.heap.size w W := hb.trans (hbW.mono hsz)
      have HC : Hid (∀ d os, Calls Try.prog 120 #[.slice A n c, .slice (some ⟨b, off, none⟩) k c2, .agg #[.int .i64 x.person, .int .i64 x.crane, .int .i64 x.role, .int .i64 x.start, .int .i64 x.stop]] (grow (redrawn W d) os) fun e w' => e = .returned (.int .i64 v) ∧ Below (grow (redrawn W d) os).heap.size (grow (redrawn W d) os) w') := by
        intro d os
        have hb9 := hbB.trans ((below_regrown W d os).mono hbB.size)
        have := shiftFault_any A (some ⟨b, off, none⟩) n c k c2 ps (xs.take k) x (grow (redrawn W d) os) lo lo2 ((h.below hb9).more hb9.size) hn (((h2.below hb9).more hb9.size).take (by omega)) (by omega) (noF_formed HA.out)
        rwa [hv] at this
      have HV := Lib.hid hv
      clear hv
      by_cases hv0 : v = 0
      · subst hv0
        go_wp2
        rw [← hW]
        clear hW c0 c1 c2' c3 c4
        refine wp_region_quiet_below (by kernel_rfl) (by kernel_rfl) ?_
        repeat (go_big_quiet_step (first | (go_at_call 120; exact Calls.regrown_of (HC.out _ _))))
        refine wpQuiet_nil ?_
        intro _ hw9
        obtain ⟨⟨dq, osq⟩, hw9⟩ := hw9
        subst hw9
        have hb1 := below_regrown W dq osq
        dsimp only at hb1 ⊢
        clear t0 t1 t2 t3 t4 HC
        generalize grow (redrawn W dq) osq = W2 at hb1 ⊢
        go_wp2
        go_roundw
        case rel => exact ⟨k + 1, by omega, by go_num, allTo_step HA.out (by rw [noF_of HX.out, HV.out]; rfl), hbB.trans (hb1.mono hbB.size)⟩
        case measure => simp [intOf]; omega
      · have hne : (v != 0) = true := by simpa using hv0
        have H := Lib.hid (first_hit HL.out HA.out HX.out (by rw [HV.out]; exact hv0))
        clear hv0
        go_wp2
        rw [← hW]
        clear hW c0 c1 c2' c3 c4
        refine wp_region_quiet_below (by kernel_rfl) (by kernel_rfl) ?_
        repeat (go_big_quiet_step (first | (go_at_call 120; exact Calls.regrown_of (HC.out _ _))))
        refine wpQuiet_nil ?_
        intro _ hw9
        obtain ⟨⟨dq, osq⟩, hw9⟩ := hw9
        subst hw9
        have hb1 := below_regrown W dq osq
        dsimp only at hb1 ⊢
        clear t0 t1 t2 t3 t4 HC
        generalize grow (redrawn W dq) osq = W2 at hb1 ⊢
        go_wp2
        go_ret2
        exact ⟨by rw [H.out.1, H.out.2, HV.out]; rfl, hbB.trans (hb1.mono hbB.size)⟩
    · obtain rfl : k = n2 := by omega
      have H := Lib.hid (first_none HL.out HA.out)
      go_wp2
      go_ret2
      exact ⟨by rw [H.out.1, H.out.2]; rfl, hb⟩

set_option maxRecDepth 100000 in
set_option maxHeartbeats 1600000 in
theorem specFirst_any (A A2 : Option Addr) (n c n2 c2 : Nat) (ps : List Person) (xs : List Shift) (w : World) (lo lo2 : Nat) (h : Arr Person.cs 3 w lo w.heap.size A n ps) (hn : n ≤ 1048576) (h2 : Arr Shift.cs 5 w lo2 w.heap.size A2 n2 xs) (hc : n2 ≤ c2) (hc2 : c2 ≤ 1048576) (hps : ∀ p ∈ ps, pOk p = true) :
    Calls Try.prog 115 #[.slice A n c, .slice A2 n2 c2] w fun e w' => e = .returned (.tuple #[.int .i64 (atF ps xs), .int .i64 (kindF ps xs)]) ∧ ∃ q, w' = w.drewN q := by
  have HL := Lib.hid h2.1
  have HPS := Lib.hid hps
  clear hps
  go_enter Try.func115, Try.ntmps115
  go_wp2
  go_loopw [6] (fun i wr => ∃ k : Nat, k ≤ n2 ∧ i = .int .i64 k ∧ allTo (noF ps xs) k = true ∧ ∃ q, wr = w.drewN q) (fun i _ => n2 - (intOf i).toNat)
  case atStart => exact ⟨0, Nat.zero_le _, rfl, rfl, 0, rfl⟩
  case round =>
    obtain ⟨k, hk, rfl, hall, N, rfl⟩ := hrel
    have HA := Lib.hid hall
    clear hall
    by_cases hlt : k < n2
    · obtain ⟨b, off, x, rfl, hx, _, hbl, c0, c1, c2', c3, c4⟩ := Shift.at h2 hlt
      have HX := Lib.hid hx
      have hk0 : (0 : Int) ≤ (k : Int) := by omega
      have hk1 : (k : Int) < (n2 : Int) := by omega
      have hk2 : (k : Int) ≤ (c2 : Int) := by omega
      clear hx
      obtain ⟨v, hv⟩ : ∃ v : Int, faultOf ps (xs.take k) x = v := ⟨_, rfl⟩
      have HC : Hid (∀ q, Calls Try.prog 116 #[.slice A n c, .slice (some ⟨b, off, none⟩) k c2, .pointer (some ⟨b, off + k * 5, none⟩)] (w.drewN q) (Quiet (.int .i64 v) (w.drewN q))) := by
        intro q
        have hb9 := bel_drewN (Below.refl w.heap.size w) q
        have := specFault_any A (some ⟨b, off, none⟩) n c k c2 ps (xs.take k) x b (off + k * 5) (w.drewN q) lo lo2 ((h.below hb9).more hb9.size) hn (((h2.below hb9).more hb9.size).take (by omega)) (by omega) HPS.out (noF_formed HA.out) c0 c1 c2' c3 c4
        rwa [hv] at this
      have HV := Lib.hid hv
      clear hv
      by_cases hv0 : v = 0
      · subst hv0
        go_wp2
        go_quiet ((go_at_call 116; exact quiet_add (HC.out _)))
        clear HC
        go_wp2
        go_roundw
        case rel => exact ⟨k + 1, by omega, by go_num, allTo_step HA.out (by rw [noF_of HX.out, HV.out]; rfl), by first | exact ⟨_, rfl⟩ | exact ⟨_, World.drewN_drewN _ _ _⟩⟩
        case measure => simp [intOf]; omega
      · have hne : (v != 0) = true := by simpa using hv0
        have H := Lib.hid (first_hit HL.out HA.out HX.out (by rw [HV.out]; exact hv0))
        clear hv0
        go_wp2
        go_quiet ((go_at_call 116; exact quiet_add (HC.out _)))
        clear HC
        go_wp2
        go_ret2
        exact ⟨by rw [H.out.1, H.out.2, HV.out]; rfl, by first | exact ⟨_, rfl⟩ | exact ⟨_, World.drewN_drewN _ _ _⟩⟩
    · obtain rfl : k = n2 := by omega
      have H := Lib.hid (first_none HL.out HA.out)
      go_wp2
      go_ret2
      exact ⟨by rw [H.out.1, H.out.2]; rfl, by first | exact ⟨_, rfl⟩ | exact ⟨_, World.drewN_drewN _ _ _⟩⟩
theorem specFirst_bel (A A2 : Option Addr) (n c n2 c2 : Nat) (ps : List Person) (xs : List Shift) (w : World) (lo lo2 : Nat) (h : Arr Person.cs 3 w lo w.heap.size A n ps) (hn : n ≤ 1048576) (h2 : Arr Shift.cs 5 w lo2 w.heap.size A2 n2 xs) (hc : n2 ≤ c2) (hc2 : c2 ≤ 1048576) (hps : ∀ p ∈ ps, pOk p = true) :
    Calls Try.prog 115 #[.slice A n c, .slice A2 n2 c2] w fun e w' => e = .returned (.tuple #[.int .i64 (atF ps xs), .int .i64 (kindF ps xs)]) ∧ Below w.heap.size w w' :=
  (specFirst_any A A2 n c n2 c2 ps xs w lo lo2 h hn h2 hc hc2 hps).mono fun _ _ ⟨he, q, hq⟩ => ⟨he, by rw [hq]; exact bel_drewN (Below.refl _ _) _⟩

def sfCode (ps : List Person) (xs : List Shift) : Int := if personsOk ps then (if 60 < (xs.length : Int) then 5 else 0) else 1
def sfAt (ps : List Person) (xs : List Shift) : Int := if personsOk ps then (if 60 < (xs.length : Int) then 0 else atF ps xs) else 0
def sfKind (ps : List Person) (xs : List Shift) : Int := if personsOk ps then (if 60 < (xs.length : Int) then 0 else kindF ps xs) else 0
theorem personsOk_all {ps : List Person} (h : personsOk ps = true) : ∀ p ∈ ps, pOk p = true := by
  intro p hp
  obtain ⟨j, hj, rfl⟩ := List.getElem_of_mem hp
  exact personsOk_mem h (List.getElem?_eq_getElem hj)

end Go.Proofs.Ytdoinbnnpompiaa
