/- FirstBlocking of the program. -/
import Derived.Test.YtencnldflnbdiaaZone13
namespace Go.Proofs.Ytencnldflnbdiaa
open Go.RowKit Go.Sort
set_option linter.unusedVariables false

set_option maxHeartbeats 800000 in
theorem indexZOk_any (A : Option Addr) (n c : Nat) (ps : List Zone) (w : World) (lo : Nat) (h : Zones w lo w.heap.size A n ps) (hn : n ≤ 9223372036854775807) (q : Zone → Bool)
    (hf : ∀ (p : Zone) (W : World), p ∈ ps → Below w.heap.size w W → Calls Try.prog 92 #[.agg #[.int .i64 p.v.kind, .int .i64 p.v.storeys, .int .i64 p.v.each, .slice p.r.a p.r.n p.r.cap]] W fun e W' => e = .returned (.bool (q p)) ∧ Below W.heap.size W W') :
    Calls Try.prog 93 #[.slice A n c, .func (.func 92) #[] #[]] w fun e w' => e = .returned (.int .i64 (fIdx q ps)) ∧ Below w.heap.size w w' := by
  have HF := Lib.hid hf
  clear hf
  go_enter Try.func93, Try.ntmps93
  go_wp2
  go_loopw [8] (fun i wr => ∃ k : Nat, k ≤ n ∧ i = .int .i64 k ∧ noTo q ps k = true ∧ Below w.heap.size w wr) (fun i _ => n - (intOf i).toNat)
  case atStart => exact ⟨0, Nat.zero_le _, rfl, rfl, Below.refl _ _⟩
  case round =>
    obtain ⟨k, hk, rfl, hno, hb⟩ := hrel
    have HN := Lib.hid hno
    clear hno
    by_cases hlt : k < n
    · obtain ⟨b, off, p, rfl, hx, _, hbl, hrow, c0, c1, c2, c3⟩ := Zone.at (h.below hb) hlt
      have HX := Lib.hid hx
      clear hx
      cases hq : q p
      · have HQ := Lib.hid hq
        go_wp2_with (go_at_call 92; refine (HF.out p _ (List.mem_of_getElem? HX.out) hb).mono ?_; rintro e w1 ⟨rfl, hb1⟩)
        go_roundw
        case rel => exact ⟨k + 1, by omega, by go_num, noTo_step HN.out HX.out HQ.out, hb.trans (hb1.mono hb.size)⟩
        case measure => simp [intOf]; omega
      · have HQ := Lib.hid hq
        go_wp2_with (go_at_call 92; refine (HF.out p _ (List.mem_of_getElem? HX.out) hb).mono ?_; rintro e w1 ⟨rfl, hb1⟩)
        go_ret
        exact ⟨by rw [fIdx_hit HN.out HX.out HQ.out]; rfl, hb.trans (hb1.mono hb.size)⟩
    · obtain rfl : k = n := by omega
      have HE : Hid (fIdx q ps = -1) := fIdx_none (by rw [h.len]; exact HN.out)
      go_wp2
      go_ret
      exact ⟨by rw [HE.out]; rfl, hb⟩

theorem containsZOk_any (A : Option Addr) (n c : Nat) (ps : List Zone) (w : World) (lo : Nat) (h : Zones w lo w.heap.size A n ps) (hn : n ≤ 9223372036854775807) (q : Zone → Bool)
    (hf : ∀ (p : Zone) (W : World), p ∈ ps → Below w.heap.size w W → Calls Try.prog 92 #[.agg #[.int .i64 p.v.kind, .int .i64 p.v.storeys, .int .i64 p.v.each, .slice p.r.a p.r.n p.r.cap]] W fun e W' => e = .returned (.bool (q p)) ∧ Below W.heap.size W W') :
    Calls Try.prog 91 #[.slice A n c, .func (.func 92) #[] #[]] w fun e w' => e = .returned (.bool (ps.any q)) ∧ Below w.heap.size w w' := by
  have HF := Lib.hid hf
  clear hf
  have HA : Hid (ps.any q = decide (0 ≤ fIdx q ps)) := any_fIdx q ps
  go_enter Try.func91, Try.ntmps91
  go_wp2_with fail
  refine (indexZOk_any A n c ps _ lo h hn q HF.out).mono ?_
  rintro e w1 ⟨rfl, hb⟩
  go_wp2
  go_ret
  exact ⟨by rw [HA.out]; rfl, hb⟩

set_option maxHeartbeats 800000 in
theorem indexFB_any (A : Option Addr) (n c : Nat) (ps : List Zone) (w : World) (lo : Nat) (h : Zones w lo w.heap.size A n ps) (hn : n ≤ 9223372036854775807) (q : Zone → Bool) (g1 g2 g3 : Addr)
    (hf : ∀ (p : Zone) (W : World), p ∈ ps → Below w.heap.size w W → Calls Try.prog 94 #[.agg #[.int .i64 p.v.kind, .int .i64 p.v.storeys, .int .i64 p.v.each, .slice p.r.a p.r.n p.r.cap], .pointer (some g1), .pointer (some g2), .pointer (some g3)] W fun e W' => e = .returned (.bool (q p)) ∧ Below W.heap.size W W') :
    Calls Try.prog 93 #[.slice A n c, .func (.func 94) #[] #[.pointer (some g1), .pointer (some g2), .pointer (some g3)]] w fun e w' => e = .returned (.int .i64 (fIdx q ps)) ∧ Below w.heap.size w w' := by
  have HF := Lib.hid hf
  clear hf
  go_enter Try.func93, Try.ntmps93
  go_wp2
  go_loopw [8] (fun i wr => ∃ k : Nat, k ≤ n ∧ i = .int .i64 k ∧ noTo q ps k = true ∧ Below w.heap.size w wr) (fun i _ => n - (intOf i).toNat)
  case atStart => exact ⟨0, Nat.zero_le _, rfl, rfl, Below.refl _ _⟩
  case round =>
    obtain ⟨k, hk, rfl, hno, hb⟩ := hrel
    have HN := Lib.hid hno
    clear hno
    by_cases hlt : k < n
    · obtain ⟨b, off, p, rfl, hx, _, hbl, hrow, c0, c1, c2, c3⟩ := Zone.at (h.below hb) hlt
      have HX := Lib.hid hx
      clear hx
      cases hq : q p
      · have HQ := Lib.hid hq
        go_wp2_with (go_at_call 94; refine (HF.out p _ (List.mem_of_getElem? HX.out) hb).mono ?_; rintro e w1 ⟨rfl, hb1⟩)
        go_roundw
        case rel => exact ⟨k + 1, by omega, by go_num, noTo_step HN.out HX.out HQ.out, hb.trans (hb1.mono hb.size)⟩
        case measure => simp [intOf]; omega
      · have HQ := Lib.hid hq
        go_wp2_with (go_at_call 94; refine (HF.out p _ (List.mem_of_getElem? HX.out) hb).mono ?_; rintro e w1 ⟨rfl, hb1⟩)
        go_ret
        exact ⟨by rw [fIdx_hit HN.out HX.out HQ.out]; rfl, hb.trans (hb1.mono hb.size)⟩
    · obtain rfl : k = n := by omega
      have HE : Hid (fIdx q ps = -1) := fIdx_none (by rw [h.len]; exact HN.out)
      go_wp2
      go_ret
      exact ⟨by rw [HE.out]; rfl, hb⟩

def loadB (v : ZoneV) (ht : Int) : Bool := decide (v.kind = 2) || (decide (v.kind = 1) && decide (ht < v.storeys * v.each + 20))
def blkQ (p q : Pnt) (ht : Int) (z : ZV) : Bool := loadB z.1 ht && meetB z.2 p q
def zsOk (zs : List ZV) : Bool := decide (zs.length ≤ 10) && zs.all zoneOk
def fbOk (zs : List ZV) (p q : Pnt) : Bool := zsOk zs && (plcB p.x p.y && plcB q.x q.y)
def fbVal (zs : List ZV) (p q : Pnt) (ht : Int) : Int := if fbOk zs p q && inB ht 0 2000 then fIdx (blkQ p q ht) zs else 0
def fbCode (zs : List ZV) (p q : Pnt) (ht : Int) : Int := if fbOk zs p q then (if inB ht 0 2000 then 0 else 2) else 1
theorem fb_bad {zs : List ZV} {p q : Pnt} {ht : Int} (h : fbOk zs p q = false) : fbVal zs p q ht = 0 ∧ fbCode zs p q ht = 1 := by unfold fbVal fbCode; rw [h]; exact ⟨rfl, rfl⟩
theorem fb_range {zs : List ZV} {p q : Pnt} {ht : Int} (h : fbOk zs p q = true) (h2 : inB ht 0 2000 = false) : fbVal zs p q ht = 0 ∧ fbCode zs p q ht = 2 := by unfold fbVal fbCode; rw [h, h2]; exact ⟨rfl, rfl⟩
theorem fb_yes {zs : List ZV} {p q : Pnt} {ht : Int} (h : fbOk zs p q = true) (h2 : inB ht 0 2000 = true) : fbVal zs p q ht = fIdx (blkQ p q ht) zs ∧ fbCode zs p q ht = 0 := by unfold fbVal fbCode; rw [h, h2]; exact ⟨rfl, rfl⟩
theorem zhd_small {v : ZoneV} (h : zHd v = true) : -1 ≤ v.storeys * v.each ∧ v.storeys * v.each ≤ 2000 ∧ -9223372036854775808 ≤ v.storeys * v.each + 20 := by
  unfold zHd at h
  split at h
  · unfold bldB at h
    rw [Bool.and_eq_true, Bool.and_eq_true, inB_true, inB_true, decide_eq_true_eq] at h
    have : 0 ≤ v.storeys * v.each := Int.mul_nonneg (by omega) (by omega)
    omega
  · unfold nilB at h
    rw [Bool.and_eq_true, Bool.and_eq_true, decide_eq_true_eq, decide_eq_true_eq] at h
    rw [h.2.1]; simp
theorem zoneOk_hd {z : ZV} (h : zoneOk z = true) : zHd z.1 = true := by unfold zoneOk at h; rw [Bool.and_eq_true] at h; exact h.1
set_option maxHeartbeats 1600000 in
theorem blocksLoad_any (z : Zone) (ht : Int) (w : World) (hok : zHd z.v = true) :
    Calls Try.prog 95 #[.agg #[.int .i64 z.v.kind, .int .i64 z.v.storeys, .int .i64 z.v.each, .slice z.r.a z.r.n z.r.cap], .int .i64 ht] w fun e w' => e = .returned (.bool (loadB z.v ht)) ∧ Below w.heap.size w w' := by
  have hs := zhd_small hok
  have HO : Hid (loadB z.v ht = (decide (z.v.kind = 2) || (decide (z.v.kind = 1) && decide (ht < z.v.storeys * z.v.each + 20)))) := rfl
  obtain ⟨⟨kind, storeys, each⟩, ⟨A, n, c, cs⟩⟩ := z
  dsimp only at *
  obtain ⟨h1, h2, h3⟩ := hs
  clear hok
  by_cases e2 : kind = 2
  · have HE : Hid (loadB ⟨kind, storeys, each⟩ ht = true) := by show _ = _; rw [HO.out, decide_eq_true e2]; rfl
    have E2 : Hid ((kind == 2) = true) := by show _ = _; simp [e2]
    clear e2
    have e2' := E2.out
    go_enter Try.func95, Try.ntmps95
    go_wp2
    go_ret
    exact ⟨by rw [HE.out]; rfl, (Below.refl _ _).alloc (Nat.le_refl _) _⟩
  · have E2 : Hid ((kind == 2) = false) := beq_eq_false_iff_ne.2 e2
    by_cases e1 : kind = 1
    · have HE : Hid (loadB ⟨kind, storeys, each⟩ ht = decide (ht < storeys * each + 20)) := by show _ = _; rw [HO.out, decide_eq_false e2, decide_eq_true e1]; rfl
      have E1 : Hid ((kind == 1) = true) := by show _ = _; simp [e1]
      clear e2 e1
      have e2' := E2.out
      have e1' := E1.out
      go_enter Try.func95, Try.ntmps95
      go_wp2
      go_ret
      exact ⟨by rw [HE.out]; rfl, (Below.refl _ _).alloc (Nat.le_refl _) _⟩
    · have HE : Hid (loadB ⟨kind, storeys, each⟩ ht = false) := by show _ = _; rw [HO.out, decide_eq_false e2, decide_eq_false e1]; rfl
      have E1 : Hid ((kind == 1) = false) := beq_eq_false_iff_ne.2 e1
      clear e2 e1
      have e2' := E2.out
      have e1' := E1.out
      go_enter Try.func95, Try.ntmps95
      go_wp2
      go_ret
      exact ⟨by rw [HE.out]; rfl, (Below.refl _ _).alloc (Nat.le_refl _) _⟩
theorem zonesOk1_any (z : Zone) (w : World) (lo : Nat) (h : Arr Pnt.cs 2 w lo w.heap.size z.r.a z.r.n z.r.xs) (hn : z.r.n ≤ 1048576) :
    Calls Try.prog 92 #[.agg #[.int .i64 z.v.kind, .int .i64 z.v.storeys, .int .i64 z.v.each, .slice z.r.a z.r.n z.r.cap]] w fun e w' => e = .returned (.bool (!zoneOk z.val)) ∧ Below w.heap.size w w' := by
  have HQ := Lib.hid (fun W (hW : Below w.heap.size w W) => validZone_any z W lo ((h.below hW).more hW.size) hn)
  go_enter Try.func92, Try.ntmps92
  go_wp2_with fail
  refine (HQ.out _ ((Below.refl _ _).alloc (Nat.le_refl _) _)).mono ?_
  rintro e w1 ⟨rfl, hb1⟩
  go_wp2
  go_ret
  exact ⟨rfl, ((Below.refl _ _).alloc (Nat.le_refl _) _).trans (hb1.mono (by simp))⟩
theorem any_zones (ps : List Zone) : ps.any (fun z => !zoneOk z.val) = !(ps.map Zone.val).all zoneOk := by
  rw [List.all_map]
  induction ps with
  | nil => rfl
  | cons x xs ih => rw [List.any_cons, List.all_cons, ih]; simp [Function.comp]
theorem zonesOk_any (A : Option Addr) (n c : Nat) (ps : List Zone) (w : World) (lo : Nat) (h : Zones w lo w.heap.size A n ps) (hn : n ≤ 1048576) (hp : ∀ z ∈ ps, z.r.n ≤ 1048576) :
    Calls Try.prog 60 #[.slice A n c] w fun e w' => e = .returned (.bool (zsOk (ps.map Zone.val))) ∧ Below w.heap.size w w' := by
  have HO : Hid (zsOk (ps.map Zone.val) = (decide ((n : Int) ≤ 10) && (ps.map Zone.val).all zoneOk)) := by
    show _ = _; unfold zsOk; rw [List.length_map, h.len]; congr 1; exact decide_eq_decide.2 (by omega)
  have HA : Hid (ps.any (fun z => !zoneOk z.val) = !(ps.map Zone.val).all zoneOk) := any_zones ps
  have HC := Lib.hid (containsZOk_any A n c ps w lo h (by omega) (fun z => !zoneOk z.val) (fun z W hz hW => by
    obtain ⟨i, hi, rfl⟩ := List.getElem_of_mem hz
    exact zonesOk1_any _ W lo (((h.2 _ hz).below hW).more hW.size) (hp _ hz)))
  generalize (ps.map Zone.val).all zoneOk = AL at *
  by_cases h10 : (n : Int) ≤ 10
  · have HE : Hid (zsOk (ps.map Zone.val) = AL) := by show _ = _; rw [HO.out, decide_eq_true h10]; rfl
    go_enter Try.func60, Try.ntmps60
    go_wp2_with fail
    refine HC.out.mono ?_
    rintro e w1 ⟨rfl, hb1⟩
    rw [HA.out]
    go_wp2
    go_ret
    exact ⟨by rw [HE.out]; cases AL <;> rfl, hb1⟩
  · have HE : Hid (zsOk (ps.map Zone.val) = false) := by show _ = _; rw [HO.out, decide_eq_false h10]; rfl
    go_enter Try.func60, Try.ntmps60
    go_wp2
    go_ret
    exact ⟨by rw [HE.out]; rfl, Below.refl _ _⟩
end Go.Proofs.Ytencnldflnbdiaa
